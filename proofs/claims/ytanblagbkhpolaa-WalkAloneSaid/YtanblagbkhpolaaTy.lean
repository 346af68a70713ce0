/- The types of this translation, as the abstract machine reads them: closed facts. -/
import Derived.Test.YtanblagbkhpolaaProg
import Derived.Test.YtanblagbkhpolaaAw
namespace Go.Proofs.Ytanblagbkhpolaa
open Go.Am
set_option maxRecDepth 100000
def zRow (n : Nat) (s : Sc) : List Sc := List.replicate n s
theorem zRow_len {n : Nat} {s : Sc} : (zRow n s).length = n := List.length_replicate
attribute [go_sem] zRow_len
theorem hmix : Try.prog.follows .mixedOrders = true := by kernel_rfl
theorem dT1 : dT Try.prog 1 = .other := by kernel_rfl
theorem sT1 : szT Try.prog 1 = 1 := by kernel_rfl
theorem bT1 : byT Try.prog 1 = 8 := by kernel_rfl
theorem zT1 : zT Try.prog 1 = some [.nilf] := by kernel_rfl
theorem eql1T1 {f : Nat} {c : List (Nat × Nat × Nat)}  : abin Try.prog .eql 1 (.c (.f f c)) (.c .nilf) = some (.c (.b false)) := by kernel_rfl
theorem eql2T1 : abin Try.prog .eql 1 (.c .nilf) (.c .nilf) = some (.c (.b true)) := by kernel_rfl
theorem neq1T1 {f : Nat} {c : List (Nat × Nat × Nat)}  : abin Try.prog .neq 1 (.c (.f f c)) (.c .nilf) = some (.c (.b true)) := by kernel_rfl
theorem neq2T1 : abin Try.prog .neq 1 (.c .nilf) (.c .nilf) = some (.c (.b false)) := by kernel_rfl
theorem dT2 : dT Try.prog 2 = .int .i64 := by kernel_rfl
theorem sT2 : szT Try.prog 2 = 1 := by kernel_rfl
theorem bT2 : byT Try.prog 2 = 8 := by kernel_rfl
theorem zT2 : zT Try.prog 2 = some [.i 0] := by kernel_rfl
theorem dT3 : dT Try.prog 3 = .int .i64 := by kernel_rfl
theorem sT3 : szT Try.prog 3 = 1 := by kernel_rfl
theorem bT3 : byT Try.prog 3 = 8 := by kernel_rfl
theorem zT3 : zT Try.prog 3 = some [.i 0] := by kernel_rfl
theorem dT4 : dT Try.prog 4 = .bool := by kernel_rfl
theorem sT4 : szT Try.prog 4 = 1 := by kernel_rfl
theorem bT4 : byT Try.prog 4 = 1 := by kernel_rfl
theorem zT4 : zT Try.prog 4 = some [.b false] := by kernel_rfl
theorem dT5 : dT Try.prog 5 = .int .u8 := by kernel_rfl
theorem sT5 : szT Try.prog 5 = 1 := by kernel_rfl
theorem bT5 : byT Try.prog 5 = 1 := by kernel_rfl
theorem zT5 : zT Try.prog 5 = some [.k .u8 (0)] := by kernel_rfl
theorem dT7 : dT Try.prog 7 = .st [(0, 2), (1, 3), (2, 4), (3, 6)] := by kernel_rfl
theorem sT7 : szT Try.prog 7 = 4 := by kernel_rfl
theorem bT7 : byT Try.prog 7 = 24 := by kernel_rfl
theorem zT7 : zT Try.prog 7 = some [.i 0, .i 0, .b false, .k .u8 (0)] := by kernel_rfl
theorem dT9 : dT Try.prog 9 = .str := by kernel_rfl
theorem sT9 : szT Try.prog 9 = 1 := by kernel_rfl
theorem bT9 : byT Try.prog 9 = 16 := by kernel_rfl
theorem zT9 : zT Try.prog 9 = some [.s ByteArray.empty] := by kernel_rfl
theorem dT12 : dT Try.prog 12 = .int .u64 := by kernel_rfl
theorem sT12 : szT Try.prog 12 = 1 := by kernel_rfl
theorem bT12 : byT Try.prog 12 = 8 := by kernel_rfl
theorem zT12 : zT Try.prog 12 = some [.u 0#64] := by kernel_rfl
theorem dT13 : dT Try.prog 13 = .st [(0, 9), (1, 12)] := by kernel_rfl
theorem sT13 : szT Try.prog 13 = 2 := by kernel_rfl
theorem bT13 : byT Try.prog 13 = 24 := by kernel_rfl
theorem zT13 : zT Try.prog 13 = some [.s ByteArray.empty, .u 0#64] := by kernel_rfl
theorem dT21 : dT Try.prog 21 = .int .i32 := by kernel_rfl
theorem sT21 : szT Try.prog 21 = 1 := by kernel_rfl
theorem bT21 : byT Try.prog 21 = 4 := by kernel_rfl
theorem zT21 : zT Try.prog 21 = some [.k .i32 (0)] := by kernel_rfl
theorem dT22 : dT Try.prog 22 = .int .u64 := by kernel_rfl
theorem sT22 : szT Try.prog 22 = 1 := by kernel_rfl
theorem bT22 : byT Try.prog 22 = 8 := by kernel_rfl
theorem zT22 : zT Try.prog 22 = some [.u 0#64] := by kernel_rfl
theorem dT23 : dT Try.prog 23 = .int .i64 := by kernel_rfl
theorem sT23 : szT Try.prog 23 = 1 := by kernel_rfl
theorem bT23 : byT Try.prog 23 = 8 := by kernel_rfl
theorem zT23 : zT Try.prog 23 = some [.i 0] := by kernel_rfl
theorem dT24 : dT Try.prog 24 = .st [(0, 3), (1, 22), (2, 22), (3, 3), (4, 23), (5, 4), (6, 4)] := by kernel_rfl
theorem sT24 : szT Try.prog 24 = 7 := by kernel_rfl
theorem bT24 : byT Try.prog 24 = 48 := by kernel_rfl
theorem zT24 : zT Try.prog 24 = some [.i 0, .u 0#64, .u 0#64, .i 0, .i 0, .b false, .b false] := by kernel_rfl
theorem dT25 : dT Try.prog 25 = .st [(0, 3), (1, 22), (2, 22), (3, 3), (4, 23), (5, 4), (6, 4)] := by kernel_rfl
theorem sT25 : szT Try.prog 25 = 7 := by kernel_rfl
theorem bT25 : byT Try.prog 25 = 48 := by kernel_rfl
theorem zT25 : zT Try.prog 25 = some [.i 0, .u 0#64, .u 0#64, .i 0, .i 0, .b false, .b false] := by kernel_rfl
theorem gT25 : tagsT Try.prog 12 25 = some [.n, .n, .n, .n, .n, .q, .q] := by kernel_rfl
theorem eqT25 {a b : List Sc} : abin Try.prog .eql 25 (.g a) (.g b) = (csEq [.n, .n, .n, .n, .n, .q, .q] a b).bind (eqU .eql) := ab_g_eql _ (by simp only [dT25, D.agg]) gT25
theorem neT25 {a b : List Sc} : abin Try.prog .neq 25 (.g a) (.g b) = (csEq [.n, .n, .n, .n, .n, .q, .q] a b).bind (eqU .neq) := ab_g_neq _ (by simp only [dT25, D.agg]) gT25
theorem dT26 : dT Try.prog 26 = .sl 35 := by kernel_rfl
theorem sT26 : szT Try.prog 26 = 1 := by kernel_rfl
theorem bT26 : byT Try.prog 26 = 24 := by kernel_rfl
theorem zT26 : zT Try.prog 26 = some [.nils] := by kernel_rfl
theorem eql1T26 {a b c n : Nat}  : abin Try.prog .eql 26 (.c (.sl a b c n)) (.c .nils) = if n = 0 then some (.c .qq) else some (.c (.b false)) := by kernel_rfl
theorem eql2T26 : abin Try.prog .eql 26 (.c .nils) (.c .nils) = some (.c (.b true)) := by kernel_rfl
theorem neq1T26 {a b c n : Nat}  : abin Try.prog .neq 26 (.c (.sl a b c n)) (.c .nils) = if n = 0 then some (.c .qq) else some (.c (.b true)) := by kernel_rfl
theorem neq2T26 : abin Try.prog .neq 26 (.c .nils) (.c .nils) = some (.c (.b false)) := by kernel_rfl
theorem dT27 : dT Try.prog 27 = .ptr 29 := by kernel_rfl
theorem sT27 : szT Try.prog 27 = 1 := by kernel_rfl
theorem bT27 : byT Try.prog 27 = 8 := by kernel_rfl
theorem zT27 : zT Try.prog 27 = some [.nilp] := by kernel_rfl
theorem eql1T27 {a b c : Nat}  : abin Try.prog .eql 27 (.c (.p a b c)) (.c .nilp) = some (.c (.b false)) := by kernel_rfl
theorem eql2T27 : abin Try.prog .eql 27 (.c .nilp) (.c .nilp) = some (.c (.b true)) := by kernel_rfl
theorem neq1T27 {a b c : Nat}  : abin Try.prog .neq 27 (.c (.p a b c)) (.c .nilp) = some (.c (.b true)) := by kernel_rfl
theorem neq2T27 : abin Try.prog .neq 27 (.c .nilp) (.c .nilp) = some (.c (.b false)) := by kernel_rfl
theorem dT28 : dT Try.prog 28 = .st [(0, 4), (1, 25), (8, 3), (9, 3), (10, 22), (11, 22), (12, 4), (13, 3)] := by kernel_rfl
theorem sT28 : szT Try.prog 28 = 14 := by kernel_rfl
theorem bT28 : byT Try.prog 28 = 104 := by kernel_rfl
theorem zT28 : zT Try.prog 28 = some [.b false, .i 0, .u 0#64, .u 0#64, .i 0, .i 0, .b false, .b false, .i 0, .i 0, .u 0#64, .u 0#64, .b false, .i 0] := by kernel_rfl
theorem dT29 : dT Try.prog 29 = .st [(0, 4), (1, 25), (8, 3), (9, 3), (10, 22), (11, 22), (12, 4), (13, 3)] := by kernel_rfl
theorem sT29 : szT Try.prog 29 = 14 := by kernel_rfl
theorem bT29 : byT Try.prog 29 = 104 := by kernel_rfl
theorem zT29 : zT Try.prog 29 = some [.b false, .i 0, .u 0#64, .u 0#64, .i 0, .i 0, .b false, .b false, .i 0, .i 0, .u 0#64, .u 0#64, .b false, .i 0] := by kernel_rfl
theorem gT29 : tagsT Try.prog 12 29 = some [.q, .n, .n, .n, .n, .n, .q, .q, .n, .n, .n, .n, .q, .n] := by kernel_rfl
theorem eqT29 {a b : List Sc} : abin Try.prog .eql 29 (.g a) (.g b) = (csEq [.q, .n, .n, .n, .n, .n, .q, .q, .n, .n, .n, .n, .q, .n] a b).bind (eqU .eql) := ab_g_eql _ (by simp only [dT29, D.agg]) gT29
theorem neT29 {a b : List Sc} : abin Try.prog .neq 29 (.g a) (.g b) = (csEq [.q, .n, .n, .n, .n, .n, .q, .q, .n, .n, .n, .n, .q, .n] a b).bind (eqU .neq) := ab_g_neq _ (by simp only [dT29, D.agg]) gT29
theorem dT30 : dT Try.prog 30 = .other := by kernel_rfl
theorem sT30 : szT Try.prog 30 = 1 := by kernel_rfl
theorem bT30 : byT Try.prog 30 = 8 := by kernel_rfl
theorem zT30 : zT Try.prog 30 = some [.nilf] := by kernel_rfl
theorem eql1T30 {f : Nat} {c : List (Nat × Nat × Nat)}  : abin Try.prog .eql 30 (.c (.f f c)) (.c .nilf) = some (.c (.b false)) := by kernel_rfl
theorem eql2T30 : abin Try.prog .eql 30 (.c .nilf) (.c .nilf) = some (.c (.b true)) := by kernel_rfl
theorem neq1T30 {f : Nat} {c : List (Nat × Nat × Nat)}  : abin Try.prog .neq 30 (.c (.f f c)) (.c .nilf) = some (.c (.b true)) := by kernel_rfl
theorem neq2T30 : abin Try.prog .neq 30 (.c .nilf) (.c .nilf) = some (.c (.b false)) := by kernel_rfl
theorem dT31 : dT Try.prog 31 = .st [(0, 4), (1, 4), (2, 4), (3, 22), (4, 3)] := by kernel_rfl
theorem sT31 : szT Try.prog 31 = 5 := by kernel_rfl
theorem bT31 : byT Try.prog 31 = 24 := by kernel_rfl
theorem zT31 : zT Try.prog 31 = some [.b false, .b false, .b false, .u 0#64, .i 0] := by kernel_rfl
theorem dT32 : dT Try.prog 32 = .st [(0, 4), (1, 4), (2, 4), (3, 22), (4, 3)] := by kernel_rfl
theorem sT32 : szT Try.prog 32 = 5 := by kernel_rfl
theorem bT32 : byT Try.prog 32 = 24 := by kernel_rfl
theorem zT32 : zT Try.prog 32 = some [.b false, .b false, .b false, .u 0#64, .i 0] := by kernel_rfl
theorem gT32 : tagsT Try.prog 12 32 = some [.q, .q, .q, .n, .n] := by kernel_rfl
theorem eqT32 {a b : List Sc} : abin Try.prog .eql 32 (.g a) (.g b) = (csEq [.q, .q, .q, .n, .n] a b).bind (eqU .eql) := ab_g_eql _ (by simp only [dT32, D.agg]) gT32
theorem neT32 {a b : List Sc} : abin Try.prog .neq 32 (.g a) (.g b) = (csEq [.q, .q, .q, .n, .n] a b).bind (eqU .neq) := ab_g_neq _ (by simp only [dT32, D.agg]) gT32
theorem dT33 : dT Try.prog 33 = .arr 8 32 := by kernel_rfl
theorem sT33 : szT Try.prog 33 = 40 := by kernel_rfl
theorem bT33 : byT Try.prog 33 = 192 := by kernel_rfl
theorem zT33 : zT Try.prog 33 = some [.b false, .b false, .b false, .u 0#64, .i 0, .b false, .b false, .b false, .u 0#64, .i 0, .b false, .b false, .b false, .u 0#64, .i 0, .b false, .b false, .b false, .u 0#64, .i 0, .b false, .b false, .b false, .u 0#64, .i 0, .b false, .b false, .b false, .u 0#64, .i 0, .b false, .b false, .b false, .u 0#64, .i 0, .b false, .b false, .b false, .u 0#64, .i 0] := by kernel_rfl
theorem gT33 : tagsT Try.prog 12 33 = some [.q, .q, .q, .n, .n, .q, .q, .q, .n, .n, .q, .q, .q, .n, .n, .q, .q, .q, .n, .n, .q, .q, .q, .n, .n, .q, .q, .q, .n, .n, .q, .q, .q, .n, .n, .q, .q, .q, .n, .n] := by kernel_rfl
theorem eqT33 {a b : List Sc} : abin Try.prog .eql 33 (.g a) (.g b) = (csEq [.q, .q, .q, .n, .n, .q, .q, .q, .n, .n, .q, .q, .q, .n, .n, .q, .q, .q, .n, .n, .q, .q, .q, .n, .n, .q, .q, .q, .n, .n, .q, .q, .q, .n, .n, .q, .q, .q, .n, .n] a b).bind (eqU .eql) := ab_g_eql _ (by simp only [dT33, D.agg]) gT33
theorem neT33 {a b : List Sc} : abin Try.prog .neq 33 (.g a) (.g b) = (csEq [.q, .q, .q, .n, .n, .q, .q, .q, .n, .n, .q, .q, .q, .n, .n, .q, .q, .q, .n, .n, .q, .q, .q, .n, .n, .q, .q, .q, .n, .n, .q, .q, .q, .n, .n, .q, .q, .q, .n, .n] a b).bind (eqU .neq) := ab_g_neq _ (by simp only [dT33, D.agg]) gT33
theorem dT34 : dT Try.prog 34 = .st [(0, 22), (1, 4), (2, 33)] := by kernel_rfl
theorem sT34 : szT Try.prog 34 = 42 := by kernel_rfl
theorem bT34 : byT Try.prog 34 = 208 := by kernel_rfl
theorem zT34 : zT Try.prog 34 = some [.u 0#64, .b false, .b false, .b false, .b false, .u 0#64, .i 0, .b false, .b false, .b false, .u 0#64, .i 0, .b false, .b false, .b false, .u 0#64, .i 0, .b false, .b false, .b false, .u 0#64, .i 0, .b false, .b false, .b false, .u 0#64, .i 0, .b false, .b false, .b false, .u 0#64, .i 0, .b false, .b false, .b false, .u 0#64, .i 0, .b false, .b false, .b false, .u 0#64, .i 0] := by kernel_rfl
theorem dT35 : dT Try.prog 35 = .st [(0, 22), (1, 4), (2, 33)] := by kernel_rfl
theorem sT35 : szT Try.prog 35 = 42 := by kernel_rfl
theorem bT35 : byT Try.prog 35 = 208 := by kernel_rfl
theorem zT35 : zT Try.prog 35 = some [.u 0#64, .b false, .b false, .b false, .b false, .u 0#64, .i 0, .b false, .b false, .b false, .u 0#64, .i 0, .b false, .b false, .b false, .u 0#64, .i 0, .b false, .b false, .b false, .u 0#64, .i 0, .b false, .b false, .b false, .u 0#64, .i 0, .b false, .b false, .b false, .u 0#64, .i 0, .b false, .b false, .b false, .u 0#64, .i 0, .b false, .b false, .b false, .u 0#64, .i 0] := by kernel_rfl
theorem dT36 : dT Try.prog 36 = .int .i64 := by kernel_rfl
theorem sT36 : szT Try.prog 36 = 1 := by kernel_rfl
theorem bT36 : byT Try.prog 36 = 8 := by kernel_rfl
theorem zT36 : zT Try.prog 36 = some [.i 0] := by kernel_rfl
theorem dT37 : dT Try.prog 37 = .int .i64 := by kernel_rfl
theorem sT37 : szT Try.prog 37 = 1 := by kernel_rfl
theorem bT37 : byT Try.prog 37 = 8 := by kernel_rfl
theorem zT37 : zT Try.prog 37 = some [.i 0] := by kernel_rfl
theorem dT38 : dT Try.prog 38 = .st [(0, 3), (1, 22), (2, 3), (3, 22)] := by kernel_rfl
theorem sT38 : szT Try.prog 38 = 4 := by kernel_rfl
theorem bT38 : byT Try.prog 38 = 32 := by kernel_rfl
theorem zT38 : zT Try.prog 38 = some [.i 0, .u 0#64, .i 0, .u 0#64] := by kernel_rfl
theorem dT39 : dT Try.prog 39 = .st [(0, 3), (1, 22), (2, 3), (3, 22)] := by kernel_rfl
theorem sT39 : szT Try.prog 39 = 4 := by kernel_rfl
theorem bT39 : byT Try.prog 39 = 32 := by kernel_rfl
theorem zT39 : zT Try.prog 39 = some [.i 0, .u 0#64, .i 0, .u 0#64] := by kernel_rfl
theorem gT39 : tagsT Try.prog 12 39 = some [.n, .n, .n, .n] := by kernel_rfl
theorem eqT39 {a b : List Sc} : abin Try.prog .eql 39 (.g a) (.g b) = (csEq [.n, .n, .n, .n] a b).bind (eqU .eql) := ab_g_eql _ (by simp only [dT39, D.agg]) gT39
theorem neT39 {a b : List Sc} : abin Try.prog .neq 39 (.g a) (.g b) = (csEq [.n, .n, .n, .n] a b).bind (eqU .neq) := ab_g_neq _ (by simp only [dT39, D.agg]) gT39
theorem dT40 : dT Try.prog 40 = .st [(0, 36), (1, 22), (2, 22), (3, 3), (4, 3), (5, 37), (6, 22), (7, 22), (8, 4), (9, 3), (10, 32), (15, 39)] := by kernel_rfl
theorem sT40 : szT Try.prog 40 = 19 := by kernel_rfl
theorem bT40 : byT Try.prog 40 = 136 := by kernel_rfl
theorem zT40 : zT Try.prog 40 = some [.i 0, .u 0#64, .u 0#64, .i 0, .i 0, .i 0, .u 0#64, .u 0#64, .b false, .i 0, .b false, .b false, .b false, .u 0#64, .i 0, .i 0, .u 0#64, .i 0, .u 0#64] := by kernel_rfl
theorem dT41 : dT Try.prog 41 = .st [(0, 36), (1, 22), (2, 22), (3, 3), (4, 3), (5, 37), (6, 22), (7, 22), (8, 4), (9, 3), (10, 32), (15, 39)] := by kernel_rfl
theorem sT41 : szT Try.prog 41 = 19 := by kernel_rfl
theorem bT41 : byT Try.prog 41 = 136 := by kernel_rfl
theorem zT41 : zT Try.prog 41 = some [.i 0, .u 0#64, .u 0#64, .i 0, .i 0, .i 0, .u 0#64, .u 0#64, .b false, .i 0, .b false, .b false, .b false, .u 0#64, .i 0, .i 0, .u 0#64, .i 0, .u 0#64] := by kernel_rfl
theorem gT41 : tagsT Try.prog 12 41 = some [.n, .n, .n, .n, .n, .n, .n, .n, .q, .n, .q, .q, .q, .n, .n, .n, .n, .n, .n] := by kernel_rfl
theorem eqT41 {a b : List Sc} : abin Try.prog .eql 41 (.g a) (.g b) = (csEq [.n, .n, .n, .n, .n, .n, .n, .n, .q, .n, .q, .q, .q, .n, .n, .n, .n, .n, .n] a b).bind (eqU .eql) := ab_g_eql _ (by simp only [dT41, D.agg]) gT41
theorem neT41 {a b : List Sc} : abin Try.prog .neq 41 (.g a) (.g b) = (csEq [.n, .n, .n, .n, .n, .n, .n, .n, .q, .n, .q, .q, .q, .n, .n, .n, .n, .n, .n] a b).bind (eqU .neq) := ab_g_neq _ (by simp only [dT41, D.agg]) gT41
theorem dT43 : dT Try.prog 43 = .other := by kernel_rfl
theorem sT43 : szT Try.prog 43 = 1 := by kernel_rfl
theorem bT43 : byT Try.prog 43 = 8 := by kernel_rfl
theorem zT43 : zT Try.prog 43 = some [.nilf] := by kernel_rfl
theorem eql1T43 {f : Nat} {c : List (Nat × Nat × Nat)}  : abin Try.prog .eql 43 (.c (.f f c)) (.c .nilf) = some (.c (.b false)) := by kernel_rfl
theorem eql2T43 : abin Try.prog .eql 43 (.c .nilf) (.c .nilf) = some (.c (.b true)) := by kernel_rfl
theorem neq1T43 {f : Nat} {c : List (Nat × Nat × Nat)}  : abin Try.prog .neq 43 (.c (.f f c)) (.c .nilf) = some (.c (.b true)) := by kernel_rfl
theorem neq2T43 : abin Try.prog .neq 43 (.c .nilf) (.c .nilf) = some (.c (.b false)) := by kernel_rfl
theorem dT45 : dT Try.prog 45 = .other := by kernel_rfl
theorem sT45 : szT Try.prog 45 = 1 := by kernel_rfl
theorem bT45 : byT Try.prog 45 = 8 := by kernel_rfl
theorem zT45 : zT Try.prog 45 = some [.nilf] := by kernel_rfl
theorem eql1T45 {f : Nat} {c : List (Nat × Nat × Nat)}  : abin Try.prog .eql 45 (.c (.f f c)) (.c .nilf) = some (.c (.b false)) := by kernel_rfl
theorem eql2T45 : abin Try.prog .eql 45 (.c .nilf) (.c .nilf) = some (.c (.b true)) := by kernel_rfl
theorem neq1T45 {f : Nat} {c : List (Nat × Nat × Nat)}  : abin Try.prog .neq 45 (.c (.f f c)) (.c .nilf) = some (.c (.b true)) := by kernel_rfl
theorem neq2T45 : abin Try.prog .neq 45 (.c .nilf) (.c .nilf) = some (.c (.b false)) := by kernel_rfl
theorem dT46 : dT Try.prog 46 = .other := by kernel_rfl
theorem sT46 : szT Try.prog 46 = 1 := by kernel_rfl
theorem bT46 : byT Try.prog 46 = 8 := by kernel_rfl
theorem zT46 : zT Try.prog 46 = some [.nilf] := by kernel_rfl
theorem eql1T46 {f : Nat} {c : List (Nat × Nat × Nat)}  : abin Try.prog .eql 46 (.c (.f f c)) (.c .nilf) = some (.c (.b false)) := by kernel_rfl
theorem eql2T46 : abin Try.prog .eql 46 (.c .nilf) (.c .nilf) = some (.c (.b true)) := by kernel_rfl
theorem neq1T46 {f : Nat} {c : List (Nat × Nat × Nat)}  : abin Try.prog .neq 46 (.c (.f f c)) (.c .nilf) = some (.c (.b true)) := by kernel_rfl
theorem neq2T46 : abin Try.prog .neq 46 (.c .nilf) (.c .nilf) = some (.c (.b false)) := by kernel_rfl
theorem dT47 : dT Try.prog 47 = .other := by kernel_rfl
theorem sT47 : szT Try.prog 47 = 1 := by kernel_rfl
theorem bT47 : byT Try.prog 47 = 8 := by kernel_rfl
theorem zT47 : zT Try.prog 47 = some [.nilf] := by kernel_rfl
theorem eql1T47 {f : Nat} {c : List (Nat × Nat × Nat)}  : abin Try.prog .eql 47 (.c (.f f c)) (.c .nilf) = some (.c (.b false)) := by kernel_rfl
theorem eql2T47 : abin Try.prog .eql 47 (.c .nilf) (.c .nilf) = some (.c (.b true)) := by kernel_rfl
theorem neq1T47 {f : Nat} {c : List (Nat × Nat × Nat)}  : abin Try.prog .neq 47 (.c (.f f c)) (.c .nilf) = some (.c (.b true)) := by kernel_rfl
theorem neq2T47 : abin Try.prog .neq 47 (.c .nilf) (.c .nilf) = some (.c (.b false)) := by kernel_rfl
theorem dT48 : dT Try.prog 48 = .other := by kernel_rfl
theorem sT48 : szT Try.prog 48 = 1 := by kernel_rfl
theorem bT48 : byT Try.prog 48 = 8 := by kernel_rfl
theorem zT48 : zT Try.prog 48 = some [.nilf] := by kernel_rfl
theorem eql1T48 {f : Nat} {c : List (Nat × Nat × Nat)}  : abin Try.prog .eql 48 (.c (.f f c)) (.c .nilf) = some (.c (.b false)) := by kernel_rfl
theorem eql2T48 : abin Try.prog .eql 48 (.c .nilf) (.c .nilf) = some (.c (.b true)) := by kernel_rfl
theorem neq1T48 {f : Nat} {c : List (Nat × Nat × Nat)}  : abin Try.prog .neq 48 (.c (.f f c)) (.c .nilf) = some (.c (.b true)) := by kernel_rfl
theorem neq2T48 : abin Try.prog .neq 48 (.c .nilf) (.c .nilf) = some (.c (.b false)) := by kernel_rfl
theorem dT49 : dT Try.prog 49 = .other := by kernel_rfl
theorem sT49 : szT Try.prog 49 = 1 := by kernel_rfl
theorem bT49 : byT Try.prog 49 = 8 := by kernel_rfl
theorem zT49 : zT Try.prog 49 = some [.nilf] := by kernel_rfl
theorem eql1T49 {f : Nat} {c : List (Nat × Nat × Nat)}  : abin Try.prog .eql 49 (.c (.f f c)) (.c .nilf) = some (.c (.b false)) := by kernel_rfl
theorem eql2T49 : abin Try.prog .eql 49 (.c .nilf) (.c .nilf) = some (.c (.b true)) := by kernel_rfl
theorem neq1T49 {f : Nat} {c : List (Nat × Nat × Nat)}  : abin Try.prog .neq 49 (.c (.f f c)) (.c .nilf) = some (.c (.b true)) := by kernel_rfl
theorem neq2T49 : abin Try.prog .neq 49 (.c .nilf) (.c .nilf) = some (.c (.b false)) := by kernel_rfl
theorem dT50 : dT Try.prog 50 = .sl 41 := by kernel_rfl
theorem sT50 : szT Try.prog 50 = 1 := by kernel_rfl
theorem bT50 : byT Try.prog 50 = 24 := by kernel_rfl
theorem zT50 : zT Try.prog 50 = some [.nils] := by kernel_rfl
theorem eql1T50 {a b c n : Nat}  : abin Try.prog .eql 50 (.c (.sl a b c n)) (.c .nils) = if n = 0 then some (.c .qq) else some (.c (.b false)) := by kernel_rfl
theorem eql2T50 : abin Try.prog .eql 50 (.c .nils) (.c .nils) = some (.c (.b true)) := by kernel_rfl
theorem neq1T50 {a b c n : Nat}  : abin Try.prog .neq 50 (.c (.sl a b c n)) (.c .nils) = if n = 0 then some (.c .qq) else some (.c (.b true)) := by kernel_rfl
theorem neq2T50 : abin Try.prog .neq 50 (.c .nils) (.c .nils) = some (.c (.b false)) := by kernel_rfl
theorem dT51 : dT Try.prog 51 = .st [(0, 50), (1, 3), (2, 39), (6, 3)] := by kernel_rfl
theorem sT51 : szT Try.prog 51 = 7 := by kernel_rfl
theorem bT51 : byT Try.prog 51 = 72 := by kernel_rfl
theorem zT51 : zT Try.prog 51 = some [.nils, .i 0, .i 0, .u 0#64, .i 0, .u 0#64, .i 0] := by kernel_rfl
theorem dT52 : dT Try.prog 52 = .st [(0, 50), (1, 3), (2, 39), (6, 3)] := by kernel_rfl
theorem sT52 : szT Try.prog 52 = 7 := by kernel_rfl
theorem bT52 : byT Try.prog 52 = 72 := by kernel_rfl
theorem zT52 : zT Try.prog 52 = some [.nils, .i 0, .i 0, .u 0#64, .i 0, .u 0#64, .i 0] := by kernel_rfl
theorem dT53 : dT Try.prog 53 = .other := by kernel_rfl
theorem sT53 : szT Try.prog 53 = 1 := by kernel_rfl
theorem bT53 : byT Try.prog 53 = 8 := by kernel_rfl
theorem zT53 : zT Try.prog 53 = some [.nilf] := by kernel_rfl
theorem eql1T53 {f : Nat} {c : List (Nat × Nat × Nat)}  : abin Try.prog .eql 53 (.c (.f f c)) (.c .nilf) = some (.c (.b false)) := by kernel_rfl
theorem eql2T53 : abin Try.prog .eql 53 (.c .nilf) (.c .nilf) = some (.c (.b true)) := by kernel_rfl
theorem neq1T53 {f : Nat} {c : List (Nat × Nat × Nat)}  : abin Try.prog .neq 53 (.c (.f f c)) (.c .nilf) = some (.c (.b true)) := by kernel_rfl
theorem neq2T53 : abin Try.prog .neq 53 (.c .nilf) (.c .nilf) = some (.c (.b false)) := by kernel_rfl
theorem dT54 : dT Try.prog 54 = .st [(0, 3), (1, 22), (2, 22), (3, 3), (4, 3), (5, 4), (6, 4)] := by kernel_rfl
theorem sT54 : szT Try.prog 54 = 7 := by kernel_rfl
theorem bT54 : byT Try.prog 54 = 48 := by kernel_rfl
theorem zT54 : zT Try.prog 54 = some [.i 0, .u 0#64, .u 0#64, .i 0, .i 0, .b false, .b false] := by kernel_rfl
theorem dT55 : dT Try.prog 55 = .st [(0, 3), (1, 22), (2, 22), (3, 3), (4, 3), (5, 4), (6, 4)] := by kernel_rfl
theorem sT55 : szT Try.prog 55 = 7 := by kernel_rfl
theorem bT55 : byT Try.prog 55 = 48 := by kernel_rfl
theorem zT55 : zT Try.prog 55 = some [.i 0, .u 0#64, .u 0#64, .i 0, .i 0, .b false, .b false] := by kernel_rfl
theorem gT55 : tagsT Try.prog 12 55 = some [.n, .n, .n, .n, .n, .q, .q] := by kernel_rfl
theorem eqT55 {a b : List Sc} : abin Try.prog .eql 55 (.g a) (.g b) = (csEq [.n, .n, .n, .n, .n, .q, .q] a b).bind (eqU .eql) := ab_g_eql _ (by simp only [dT55, D.agg]) gT55
theorem neT55 {a b : List Sc} : abin Try.prog .neq 55 (.g a) (.g b) = (csEq [.n, .n, .n, .n, .n, .q, .q] a b).bind (eqU .neq) := ab_g_neq _ (by simp only [dT55, D.agg]) gT55
theorem dT56 : dT Try.prog 56 = .other := by kernel_rfl
theorem sT56 : szT Try.prog 56 = 1 := by kernel_rfl
theorem bT56 : byT Try.prog 56 = 8 := by kernel_rfl
theorem zT56 : zT Try.prog 56 = some [.nilf] := by kernel_rfl
theorem eql1T56 {f : Nat} {c : List (Nat × Nat × Nat)}  : abin Try.prog .eql 56 (.c (.f f c)) (.c .nilf) = some (.c (.b false)) := by kernel_rfl
theorem eql2T56 : abin Try.prog .eql 56 (.c .nilf) (.c .nilf) = some (.c (.b true)) := by kernel_rfl
theorem neq1T56 {f : Nat} {c : List (Nat × Nat × Nat)}  : abin Try.prog .neq 56 (.c (.f f c)) (.c .nilf) = some (.c (.b true)) := by kernel_rfl
theorem neq2T56 : abin Try.prog .neq 56 (.c .nilf) (.c .nilf) = some (.c (.b false)) := by kernel_rfl
theorem dT57 : dT Try.prog 57 = .other := by kernel_rfl
theorem sT57 : szT Try.prog 57 = 1 := by kernel_rfl
theorem bT57 : byT Try.prog 57 = 8 := by kernel_rfl
theorem zT57 : zT Try.prog 57 = some [.nilf] := by kernel_rfl
theorem eql1T57 {f : Nat} {c : List (Nat × Nat × Nat)}  : abin Try.prog .eql 57 (.c (.f f c)) (.c .nilf) = some (.c (.b false)) := by kernel_rfl
theorem eql2T57 : abin Try.prog .eql 57 (.c .nilf) (.c .nilf) = some (.c (.b true)) := by kernel_rfl
theorem neq1T57 {f : Nat} {c : List (Nat × Nat × Nat)}  : abin Try.prog .neq 57 (.c (.f f c)) (.c .nilf) = some (.c (.b true)) := by kernel_rfl
theorem neq2T57 : abin Try.prog .neq 57 (.c .nilf) (.c .nilf) = some (.c (.b false)) := by kernel_rfl
theorem dT58 : dT Try.prog 58 = .sl 68 := by kernel_rfl
theorem sT58 : szT Try.prog 58 = 1 := by kernel_rfl
theorem bT58 : byT Try.prog 58 = 24 := by kernel_rfl
theorem zT58 : zT Try.prog 58 = some [.nils] := by kernel_rfl
theorem eql1T58 {a b c n : Nat}  : abin Try.prog .eql 58 (.c (.sl a b c n)) (.c .nils) = if n = 0 then some (.c .qq) else some (.c (.b false)) := by kernel_rfl
theorem eql2T58 : abin Try.prog .eql 58 (.c .nils) (.c .nils) = some (.c (.b true)) := by kernel_rfl
theorem neq1T58 {a b c n : Nat}  : abin Try.prog .neq 58 (.c (.sl a b c n)) (.c .nils) = if n = 0 then some (.c .qq) else some (.c (.b true)) := by kernel_rfl
theorem neq2T58 : abin Try.prog .neq 58 (.c .nils) (.c .nils) = some (.c (.b false)) := by kernel_rfl
theorem dT59 : dT Try.prog 59 = .ptr 97 := by kernel_rfl
theorem sT59 : szT Try.prog 59 = 1 := by kernel_rfl
theorem bT59 : byT Try.prog 59 = 8 := by kernel_rfl
theorem zT59 : zT Try.prog 59 = some [.nilp] := by kernel_rfl
theorem eql1T59 {a b c : Nat}  : abin Try.prog .eql 59 (.c (.p a b c)) (.c .nilp) = some (.c (.b false)) := by kernel_rfl
theorem eql2T59 : abin Try.prog .eql 59 (.c .nilp) (.c .nilp) = some (.c (.b true)) := by kernel_rfl
theorem neq1T59 {a b c : Nat}  : abin Try.prog .neq 59 (.c (.p a b c)) (.c .nilp) = some (.c (.b true)) := by kernel_rfl
theorem neq2T59 : abin Try.prog .neq 59 (.c .nilp) (.c .nilp) = some (.c (.b false)) := by kernel_rfl
theorem dT60 : dT Try.prog 60 = .int .i64 := by kernel_rfl
theorem sT60 : szT Try.prog 60 = 1 := by kernel_rfl
theorem bT60 : byT Try.prog 60 = 8 := by kernel_rfl
theorem zT60 : zT Try.prog 60 = some [.i 0] := by kernel_rfl
theorem dT62 : dT Try.prog 62 = .other := by kernel_rfl
theorem sT62 : szT Try.prog 62 = 1 := by kernel_rfl
theorem bT62 : byT Try.prog 62 = 8 := by kernel_rfl
theorem zT62 : zT Try.prog 62 = some [.nilf] := by kernel_rfl
theorem eql1T62 {f : Nat} {c : List (Nat × Nat × Nat)}  : abin Try.prog .eql 62 (.c (.f f c)) (.c .nilf) = some (.c (.b false)) := by kernel_rfl
theorem eql2T62 : abin Try.prog .eql 62 (.c .nilf) (.c .nilf) = some (.c (.b true)) := by kernel_rfl
theorem neq1T62 {f : Nat} {c : List (Nat × Nat × Nat)}  : abin Try.prog .neq 62 (.c (.f f c)) (.c .nilf) = some (.c (.b true)) := by kernel_rfl
theorem neq2T62 : abin Try.prog .neq 62 (.c .nilf) (.c .nilf) = some (.c (.b false)) := by kernel_rfl
theorem dT63 : dT Try.prog 63 = .st [(0, 3), (1, 3), (2, 3), (3, 3)] := by kernel_rfl
theorem sT63 : szT Try.prog 63 = 4 := by kernel_rfl
theorem bT63 : byT Try.prog 63 = 32 := by kernel_rfl
theorem zT63 : zT Try.prog 63 = some [.i 0, .i 0, .i 0, .i 0] := by kernel_rfl
theorem dT64 : dT Try.prog 64 = .st [(0, 3), (1, 3), (2, 3), (3, 3)] := by kernel_rfl
theorem sT64 : szT Try.prog 64 = 4 := by kernel_rfl
theorem bT64 : byT Try.prog 64 = 32 := by kernel_rfl
theorem zT64 : zT Try.prog 64 = some [.i 0, .i 0, .i 0, .i 0] := by kernel_rfl
theorem gT64 : tagsT Try.prog 12 64 = some [.n, .n, .n, .n] := by kernel_rfl
theorem eqT64 {a b : List Sc} : abin Try.prog .eql 64 (.g a) (.g b) = (csEq [.n, .n, .n, .n] a b).bind (eqU .eql) := ab_g_eql _ (by simp only [dT64, D.agg]) gT64
theorem neT64 {a b : List Sc} : abin Try.prog .neq 64 (.g a) (.g b) = (csEq [.n, .n, .n, .n] a b).bind (eqU .neq) := ab_g_neq _ (by simp only [dT64, D.agg]) gT64
theorem dT66 : dT Try.prog 66 = .other := by kernel_rfl
theorem sT66 : szT Try.prog 66 = 1 := by kernel_rfl
theorem bT66 : byT Try.prog 66 = 8 := by kernel_rfl
theorem zT66 : zT Try.prog 66 = some [.nilf] := by kernel_rfl
theorem eql1T66 {f : Nat} {c : List (Nat × Nat × Nat)}  : abin Try.prog .eql 66 (.c (.f f c)) (.c .nilf) = some (.c (.b false)) := by kernel_rfl
theorem eql2T66 : abin Try.prog .eql 66 (.c .nilf) (.c .nilf) = some (.c (.b true)) := by kernel_rfl
theorem neq1T66 {f : Nat} {c : List (Nat × Nat × Nat)}  : abin Try.prog .neq 66 (.c (.f f c)) (.c .nilf) = some (.c (.b true)) := by kernel_rfl
theorem neq2T66 : abin Try.prog .neq 66 (.c .nilf) (.c .nilf) = some (.c (.b false)) := by kernel_rfl
theorem dT67 : dT Try.prog 67 = .st [(0, 3), (1, 41)] := by kernel_rfl
theorem sT67 : szT Try.prog 67 = 20 := by kernel_rfl
theorem bT67 : byT Try.prog 67 = 144 := by kernel_rfl
theorem zT67 : zT Try.prog 67 = some [.i 0, .i 0, .u 0#64, .u 0#64, .i 0, .i 0, .i 0, .u 0#64, .u 0#64, .b false, .i 0, .b false, .b false, .b false, .u 0#64, .i 0, .i 0, .u 0#64, .i 0, .u 0#64] := by kernel_rfl
theorem dT68 : dT Try.prog 68 = .st [(0, 3), (1, 41)] := by kernel_rfl
theorem sT68 : szT Try.prog 68 = 20 := by kernel_rfl
theorem bT68 : byT Try.prog 68 = 144 := by kernel_rfl
theorem zT68 : zT Try.prog 68 = some [.i 0, .i 0, .u 0#64, .u 0#64, .i 0, .i 0, .i 0, .u 0#64, .u 0#64, .b false, .i 0, .b false, .b false, .b false, .u 0#64, .i 0, .i 0, .u 0#64, .i 0, .u 0#64] := by kernel_rfl
theorem gT68 : tagsT Try.prog 12 68 = some [.n, .n, .n, .n, .n, .n, .n, .n, .n, .q, .n, .q, .q, .q, .n, .n, .n, .n, .n, .n] := by kernel_rfl
theorem eqT68 {a b : List Sc} : abin Try.prog .eql 68 (.g a) (.g b) = (csEq [.n, .n, .n, .n, .n, .n, .n, .n, .n, .q, .n, .q, .q, .q, .n, .n, .n, .n, .n, .n] a b).bind (eqU .eql) := ab_g_eql _ (by simp only [dT68, D.agg]) gT68
theorem neT68 {a b : List Sc} : abin Try.prog .neq 68 (.g a) (.g b) = (csEq [.n, .n, .n, .n, .n, .n, .n, .n, .n, .q, .n, .q, .q, .q, .n, .n, .n, .n, .n, .n] a b).bind (eqU .neq) := ab_g_neq _ (by simp only [dT68, D.agg]) gT68
theorem dT69 : dT Try.prog 69 = .arr 2 3 := by kernel_rfl
theorem sT69 : szT Try.prog 69 = 2 := by kernel_rfl
theorem bT69 : byT Try.prog 69 = 16 := by kernel_rfl
theorem zT69 : zT Try.prog 69 = some [.i 0, .i 0] := by kernel_rfl
theorem gT69 : tagsT Try.prog 12 69 = some [.n, .n] := by kernel_rfl
theorem eqT69 {a b : List Sc} : abin Try.prog .eql 69 (.g a) (.g b) = (csEq [.n, .n] a b).bind (eqU .eql) := ab_g_eql _ (by simp only [dT69, D.agg]) gT69
theorem neT69 {a b : List Sc} : abin Try.prog .neq 69 (.g a) (.g b) = (csEq [.n, .n] a b).bind (eqU .neq) := ab_g_neq _ (by simp only [dT69, D.agg]) gT69
theorem dT71 : dT Try.prog 71 = .other := by kernel_rfl
theorem sT71 : szT Try.prog 71 = 1 := by kernel_rfl
theorem bT71 : byT Try.prog 71 = 8 := by kernel_rfl
theorem zT71 : zT Try.prog 71 = some [.nilf] := by kernel_rfl
theorem eql1T71 {f : Nat} {c : List (Nat × Nat × Nat)}  : abin Try.prog .eql 71 (.c (.f f c)) (.c .nilf) = some (.c (.b false)) := by kernel_rfl
theorem eql2T71 : abin Try.prog .eql 71 (.c .nilf) (.c .nilf) = some (.c (.b true)) := by kernel_rfl
theorem neq1T71 {f : Nat} {c : List (Nat × Nat × Nat)}  : abin Try.prog .neq 71 (.c (.f f c)) (.c .nilf) = some (.c (.b true)) := by kernel_rfl
theorem neq2T71 : abin Try.prog .neq 71 (.c .nilf) (.c .nilf) = some (.c (.b false)) := by kernel_rfl
theorem dT73 : dT Try.prog 73 = .other := by kernel_rfl
theorem sT73 : szT Try.prog 73 = 1 := by kernel_rfl
theorem bT73 : byT Try.prog 73 = 8 := by kernel_rfl
theorem zT73 : zT Try.prog 73 = some [.nilf] := by kernel_rfl
theorem eql1T73 {f : Nat} {c : List (Nat × Nat × Nat)}  : abin Try.prog .eql 73 (.c (.f f c)) (.c .nilf) = some (.c (.b false)) := by kernel_rfl
theorem eql2T73 : abin Try.prog .eql 73 (.c .nilf) (.c .nilf) = some (.c (.b true)) := by kernel_rfl
theorem neq1T73 {f : Nat} {c : List (Nat × Nat × Nat)}  : abin Try.prog .neq 73 (.c (.f f c)) (.c .nilf) = some (.c (.b true)) := by kernel_rfl
theorem neq2T73 : abin Try.prog .neq 73 (.c .nilf) (.c .nilf) = some (.c (.b false)) := by kernel_rfl
theorem dT74 : dT Try.prog 74 = .other := by kernel_rfl
theorem sT74 : szT Try.prog 74 = 1 := by kernel_rfl
theorem bT74 : byT Try.prog 74 = 8 := by kernel_rfl
theorem zT74 : zT Try.prog 74 = some [.nilf] := by kernel_rfl
theorem eql1T74 {f : Nat} {c : List (Nat × Nat × Nat)}  : abin Try.prog .eql 74 (.c (.f f c)) (.c .nilf) = some (.c (.b false)) := by kernel_rfl
theorem eql2T74 : abin Try.prog .eql 74 (.c .nilf) (.c .nilf) = some (.c (.b true)) := by kernel_rfl
theorem neq1T74 {f : Nat} {c : List (Nat × Nat × Nat)}  : abin Try.prog .neq 74 (.c (.f f c)) (.c .nilf) = some (.c (.b true)) := by kernel_rfl
theorem neq2T74 : abin Try.prog .neq 74 (.c .nilf) (.c .nilf) = some (.c (.b false)) := by kernel_rfl
theorem dT75 : dT Try.prog 75 = .other := by kernel_rfl
theorem sT75 : szT Try.prog 75 = 1 := by kernel_rfl
theorem bT75 : byT Try.prog 75 = 8 := by kernel_rfl
theorem zT75 : zT Try.prog 75 = some [.nilf] := by kernel_rfl
theorem eql1T75 {f : Nat} {c : List (Nat × Nat × Nat)}  : abin Try.prog .eql 75 (.c (.f f c)) (.c .nilf) = some (.c (.b false)) := by kernel_rfl
theorem eql2T75 : abin Try.prog .eql 75 (.c .nilf) (.c .nilf) = some (.c (.b true)) := by kernel_rfl
theorem neq1T75 {f : Nat} {c : List (Nat × Nat × Nat)}  : abin Try.prog .neq 75 (.c (.f f c)) (.c .nilf) = some (.c (.b true)) := by kernel_rfl
theorem neq2T75 : abin Try.prog .neq 75 (.c .nilf) (.c .nilf) = some (.c (.b false)) := by kernel_rfl
theorem dT76 : dT Try.prog 76 = .other := by kernel_rfl
theorem sT76 : szT Try.prog 76 = 1 := by kernel_rfl
theorem bT76 : byT Try.prog 76 = 8 := by kernel_rfl
theorem zT76 : zT Try.prog 76 = some [.nilf] := by kernel_rfl
theorem eql1T76 {f : Nat} {c : List (Nat × Nat × Nat)}  : abin Try.prog .eql 76 (.c (.f f c)) (.c .nilf) = some (.c (.b false)) := by kernel_rfl
theorem eql2T76 : abin Try.prog .eql 76 (.c .nilf) (.c .nilf) = some (.c (.b true)) := by kernel_rfl
theorem neq1T76 {f : Nat} {c : List (Nat × Nat × Nat)}  : abin Try.prog .neq 76 (.c (.f f c)) (.c .nilf) = some (.c (.b true)) := by kernel_rfl
theorem neq2T76 : abin Try.prog .neq 76 (.c .nilf) (.c .nilf) = some (.c (.b false)) := by kernel_rfl
theorem dT77 : dT Try.prog 77 = .other := by kernel_rfl
theorem sT77 : szT Try.prog 77 = 1 := by kernel_rfl
theorem bT77 : byT Try.prog 77 = 8 := by kernel_rfl
theorem zT77 : zT Try.prog 77 = some [.nilf] := by kernel_rfl
theorem eql1T77 {f : Nat} {c : List (Nat × Nat × Nat)}  : abin Try.prog .eql 77 (.c (.f f c)) (.c .nilf) = some (.c (.b false)) := by kernel_rfl
theorem eql2T77 : abin Try.prog .eql 77 (.c .nilf) (.c .nilf) = some (.c (.b true)) := by kernel_rfl
theorem neq1T77 {f : Nat} {c : List (Nat × Nat × Nat)}  : abin Try.prog .neq 77 (.c (.f f c)) (.c .nilf) = some (.c (.b true)) := by kernel_rfl
theorem neq2T77 : abin Try.prog .neq 77 (.c .nilf) (.c .nilf) = some (.c (.b false)) := by kernel_rfl
theorem dT78 : dT Try.prog 78 = .other := by kernel_rfl
theorem sT78 : szT Try.prog 78 = 1 := by kernel_rfl
theorem bT78 : byT Try.prog 78 = 8 := by kernel_rfl
theorem zT78 : zT Try.prog 78 = some [.nilf] := by kernel_rfl
theorem eql1T78 {f : Nat} {c : List (Nat × Nat × Nat)}  : abin Try.prog .eql 78 (.c (.f f c)) (.c .nilf) = some (.c (.b false)) := by kernel_rfl
theorem eql2T78 : abin Try.prog .eql 78 (.c .nilf) (.c .nilf) = some (.c (.b true)) := by kernel_rfl
theorem neq1T78 {f : Nat} {c : List (Nat × Nat × Nat)}  : abin Try.prog .neq 78 (.c (.f f c)) (.c .nilf) = some (.c (.b true)) := by kernel_rfl
theorem neq2T78 : abin Try.prog .neq 78 (.c .nilf) (.c .nilf) = some (.c (.b false)) := by kernel_rfl
theorem dT79 : dT Try.prog 79 = .other := by kernel_rfl
theorem sT79 : szT Try.prog 79 = 1 := by kernel_rfl
theorem bT79 : byT Try.prog 79 = 8 := by kernel_rfl
theorem zT79 : zT Try.prog 79 = some [.nilf] := by kernel_rfl
theorem eql1T79 {f : Nat} {c : List (Nat × Nat × Nat)}  : abin Try.prog .eql 79 (.c (.f f c)) (.c .nilf) = some (.c (.b false)) := by kernel_rfl
theorem eql2T79 : abin Try.prog .eql 79 (.c .nilf) (.c .nilf) = some (.c (.b true)) := by kernel_rfl
theorem neq1T79 {f : Nat} {c : List (Nat × Nat × Nat)}  : abin Try.prog .neq 79 (.c (.f f c)) (.c .nilf) = some (.c (.b true)) := by kernel_rfl
theorem neq2T79 : abin Try.prog .neq 79 (.c .nilf) (.c .nilf) = some (.c (.b false)) := by kernel_rfl
theorem dT80 : dT Try.prog 80 = .other := by kernel_rfl
theorem sT80 : szT Try.prog 80 = 1 := by kernel_rfl
theorem bT80 : byT Try.prog 80 = 8 := by kernel_rfl
theorem zT80 : zT Try.prog 80 = some [.nilf] := by kernel_rfl
theorem eql1T80 {f : Nat} {c : List (Nat × Nat × Nat)}  : abin Try.prog .eql 80 (.c (.f f c)) (.c .nilf) = some (.c (.b false)) := by kernel_rfl
theorem eql2T80 : abin Try.prog .eql 80 (.c .nilf) (.c .nilf) = some (.c (.b true)) := by kernel_rfl
theorem neq1T80 {f : Nat} {c : List (Nat × Nat × Nat)}  : abin Try.prog .neq 80 (.c (.f f c)) (.c .nilf) = some (.c (.b true)) := by kernel_rfl
theorem neq2T80 : abin Try.prog .neq 80 (.c .nilf) (.c .nilf) = some (.c (.b false)) := by kernel_rfl
theorem dT81 : dT Try.prog 81 = .other := by kernel_rfl
theorem sT81 : szT Try.prog 81 = 1 := by kernel_rfl
theorem bT81 : byT Try.prog 81 = 8 := by kernel_rfl
theorem zT81 : zT Try.prog 81 = some [.nilf] := by kernel_rfl
theorem eql1T81 {f : Nat} {c : List (Nat × Nat × Nat)}  : abin Try.prog .eql 81 (.c (.f f c)) (.c .nilf) = some (.c (.b false)) := by kernel_rfl
theorem eql2T81 : abin Try.prog .eql 81 (.c .nilf) (.c .nilf) = some (.c (.b true)) := by kernel_rfl
theorem neq1T81 {f : Nat} {c : List (Nat × Nat × Nat)}  : abin Try.prog .neq 81 (.c (.f f c)) (.c .nilf) = some (.c (.b true)) := by kernel_rfl
theorem neq2T81 : abin Try.prog .neq 81 (.c .nilf) (.c .nilf) = some (.c (.b false)) := by kernel_rfl
theorem dT82 : dT Try.prog 82 = .other := by kernel_rfl
theorem sT82 : szT Try.prog 82 = 1 := by kernel_rfl
theorem bT82 : byT Try.prog 82 = 8 := by kernel_rfl
theorem zT82 : zT Try.prog 82 = some [.nilf] := by kernel_rfl
theorem eql1T82 {f : Nat} {c : List (Nat × Nat × Nat)}  : abin Try.prog .eql 82 (.c (.f f c)) (.c .nilf) = some (.c (.b false)) := by kernel_rfl
theorem eql2T82 : abin Try.prog .eql 82 (.c .nilf) (.c .nilf) = some (.c (.b true)) := by kernel_rfl
theorem neq1T82 {f : Nat} {c : List (Nat × Nat × Nat)}  : abin Try.prog .neq 82 (.c (.f f c)) (.c .nilf) = some (.c (.b true)) := by kernel_rfl
theorem neq2T82 : abin Try.prog .neq 82 (.c .nilf) (.c .nilf) = some (.c (.b false)) := by kernel_rfl
theorem dT83 : dT Try.prog 83 = .other := by kernel_rfl
theorem sT83 : szT Try.prog 83 = 1 := by kernel_rfl
theorem bT83 : byT Try.prog 83 = 8 := by kernel_rfl
theorem zT83 : zT Try.prog 83 = some [.nilf] := by kernel_rfl
theorem eql1T83 {f : Nat} {c : List (Nat × Nat × Nat)}  : abin Try.prog .eql 83 (.c (.f f c)) (.c .nilf) = some (.c (.b false)) := by kernel_rfl
theorem eql2T83 : abin Try.prog .eql 83 (.c .nilf) (.c .nilf) = some (.c (.b true)) := by kernel_rfl
theorem neq1T83 {f : Nat} {c : List (Nat × Nat × Nat)}  : abin Try.prog .neq 83 (.c (.f f c)) (.c .nilf) = some (.c (.b true)) := by kernel_rfl
theorem neq2T83 : abin Try.prog .neq 83 (.c .nilf) (.c .nilf) = some (.c (.b false)) := by kernel_rfl
theorem dT84 : dT Try.prog 84 = .other := by kernel_rfl
theorem sT84 : szT Try.prog 84 = 1 := by kernel_rfl
theorem bT84 : byT Try.prog 84 = 8 := by kernel_rfl
theorem zT84 : zT Try.prog 84 = some [.nilf] := by kernel_rfl
theorem eql1T84 {f : Nat} {c : List (Nat × Nat × Nat)}  : abin Try.prog .eql 84 (.c (.f f c)) (.c .nilf) = some (.c (.b false)) := by kernel_rfl
theorem eql2T84 : abin Try.prog .eql 84 (.c .nilf) (.c .nilf) = some (.c (.b true)) := by kernel_rfl
theorem neq1T84 {f : Nat} {c : List (Nat × Nat × Nat)}  : abin Try.prog .neq 84 (.c (.f f c)) (.c .nilf) = some (.c (.b true)) := by kernel_rfl
theorem neq2T84 : abin Try.prog .neq 84 (.c .nilf) (.c .nilf) = some (.c (.b false)) := by kernel_rfl
theorem dT85 : dT Try.prog 85 = .other := by kernel_rfl
theorem sT85 : szT Try.prog 85 = 1 := by kernel_rfl
theorem bT85 : byT Try.prog 85 = 8 := by kernel_rfl
theorem zT85 : zT Try.prog 85 = some [.nilf] := by kernel_rfl
theorem eql1T85 {f : Nat} {c : List (Nat × Nat × Nat)}  : abin Try.prog .eql 85 (.c (.f f c)) (.c .nilf) = some (.c (.b false)) := by kernel_rfl
theorem eql2T85 : abin Try.prog .eql 85 (.c .nilf) (.c .nilf) = some (.c (.b true)) := by kernel_rfl
theorem neq1T85 {f : Nat} {c : List (Nat × Nat × Nat)}  : abin Try.prog .neq 85 (.c (.f f c)) (.c .nilf) = some (.c (.b true)) := by kernel_rfl
theorem neq2T85 : abin Try.prog .neq 85 (.c .nilf) (.c .nilf) = some (.c (.b false)) := by kernel_rfl
theorem dT86 : dT Try.prog 86 = .ptr 115 := by kernel_rfl
theorem sT86 : szT Try.prog 86 = 1 := by kernel_rfl
theorem bT86 : byT Try.prog 86 = 8 := by kernel_rfl
theorem zT86 : zT Try.prog 86 = some [.nilp] := by kernel_rfl
theorem eql1T86 {a b c : Nat}  : abin Try.prog .eql 86 (.c (.p a b c)) (.c .nilp) = some (.c (.b false)) := by kernel_rfl
theorem eql2T86 : abin Try.prog .eql 86 (.c .nilp) (.c .nilp) = some (.c (.b true)) := by kernel_rfl
theorem neq1T86 {a b c : Nat}  : abin Try.prog .neq 86 (.c (.p a b c)) (.c .nilp) = some (.c (.b true)) := by kernel_rfl
theorem neq2T86 : abin Try.prog .neq 86 (.c .nilp) (.c .nilp) = some (.c (.b false)) := by kernel_rfl
theorem dT88 : dT Try.prog 88 = .other := by kernel_rfl
theorem sT88 : szT Try.prog 88 = 1 := by kernel_rfl
theorem bT88 : byT Try.prog 88 = 8 := by kernel_rfl
theorem zT88 : zT Try.prog 88 = some [.nilf] := by kernel_rfl
theorem eql1T88 {f : Nat} {c : List (Nat × Nat × Nat)}  : abin Try.prog .eql 88 (.c (.f f c)) (.c .nilf) = some (.c (.b false)) := by kernel_rfl
theorem eql2T88 : abin Try.prog .eql 88 (.c .nilf) (.c .nilf) = some (.c (.b true)) := by kernel_rfl
theorem neq1T88 {f : Nat} {c : List (Nat × Nat × Nat)}  : abin Try.prog .neq 88 (.c (.f f c)) (.c .nilf) = some (.c (.b true)) := by kernel_rfl
theorem neq2T88 : abin Try.prog .neq 88 (.c .nilf) (.c .nilf) = some (.c (.b false)) := by kernel_rfl
theorem dT89 : dT Try.prog 89 = .st [(0, 86)] := by kernel_rfl
theorem sT89 : szT Try.prog 89 = 1 := by kernel_rfl
theorem bT89 : byT Try.prog 89 = 8 := by kernel_rfl
theorem zT89 : zT Try.prog 89 = some [.nilp] := by kernel_rfl
theorem dT90 : dT Try.prog 90 = .st [(0, 86)] := by kernel_rfl
theorem sT90 : szT Try.prog 90 = 1 := by kernel_rfl
theorem bT90 : byT Try.prog 90 = 8 := by kernel_rfl
theorem zT90 : zT Try.prog 90 = some [.nilp] := by kernel_rfl
theorem dT91 : dT Try.prog 91 = .st [(0, 4), (1, 22)] := by kernel_rfl
theorem sT91 : szT Try.prog 91 = 2 := by kernel_rfl
theorem bT91 : byT Try.prog 91 = 16 := by kernel_rfl
theorem zT91 : zT Try.prog 91 = some [.b false, .u 0#64] := by kernel_rfl
theorem dT92 : dT Try.prog 92 = .st [(0, 4), (1, 22)] := by kernel_rfl
theorem sT92 : szT Try.prog 92 = 2 := by kernel_rfl
theorem bT92 : byT Try.prog 92 = 16 := by kernel_rfl
theorem zT92 : zT Try.prog 92 = some [.b false, .u 0#64] := by kernel_rfl
theorem gT92 : tagsT Try.prog 12 92 = some [.q, .n] := by kernel_rfl
theorem eqT92 {a b : List Sc} : abin Try.prog .eql 92 (.g a) (.g b) = (csEq [.q, .n] a b).bind (eqU .eql) := ab_g_eql _ (by simp only [dT92, D.agg]) gT92
theorem neT92 {a b : List Sc} : abin Try.prog .neq 92 (.g a) (.g b) = (csEq [.q, .n] a b).bind (eqU .neq) := ab_g_neq _ (by simp only [dT92, D.agg]) gT92
theorem dT93 : dT Try.prog 93 = .arr 8 92 := by kernel_rfl
theorem sT93 : szT Try.prog 93 = 16 := by kernel_rfl
theorem bT93 : byT Try.prog 93 = 128 := by kernel_rfl
theorem zT93 : zT Try.prog 93 = some [.b false, .u 0#64, .b false, .u 0#64, .b false, .u 0#64, .b false, .u 0#64, .b false, .u 0#64, .b false, .u 0#64, .b false, .u 0#64, .b false, .u 0#64] := by kernel_rfl
theorem gT93 : tagsT Try.prog 12 93 = some [.q, .n, .q, .n, .q, .n, .q, .n, .q, .n, .q, .n, .q, .n, .q, .n] := by kernel_rfl
theorem eqT93 {a b : List Sc} : abin Try.prog .eql 93 (.g a) (.g b) = (csEq [.q, .n, .q, .n, .q, .n, .q, .n, .q, .n, .q, .n, .q, .n, .q, .n] a b).bind (eqU .eql) := ab_g_eql _ (by simp only [dT93, D.agg]) gT93
theorem neT93 {a b : List Sc} : abin Try.prog .neq 93 (.g a) (.g b) = (csEq [.q, .n, .q, .n, .q, .n, .q, .n, .q, .n, .q, .n, .q, .n, .q, .n] a b).bind (eqU .neq) := ab_g_neq _ (by simp only [dT93, D.agg]) gT93
theorem dT94 : dT Try.prog 94 = .st [(0, 93)] := by kernel_rfl
theorem sT94 : szT Try.prog 94 = 16 := by kernel_rfl
theorem bT94 : byT Try.prog 94 = 128 := by kernel_rfl
theorem zT94 : zT Try.prog 94 = some [.b false, .u 0#64, .b false, .u 0#64, .b false, .u 0#64, .b false, .u 0#64, .b false, .u 0#64, .b false, .u 0#64, .b false, .u 0#64, .b false, .u 0#64] := by kernel_rfl
theorem dT95 : dT Try.prog 95 = .st [(0, 93)] := by kernel_rfl
theorem sT95 : szT Try.prog 95 = 16 := by kernel_rfl
theorem bT95 : byT Try.prog 95 = 128 := by kernel_rfl
theorem zT95 : zT Try.prog 95 = some [.b false, .u 0#64, .b false, .u 0#64, .b false, .u 0#64, .b false, .u 0#64, .b false, .u 0#64, .b false, .u 0#64, .b false, .u 0#64, .b false, .u 0#64] := by kernel_rfl
theorem gT95 : tagsT Try.prog 12 95 = some [.q, .n, .q, .n, .q, .n, .q, .n, .q, .n, .q, .n, .q, .n, .q, .n] := by kernel_rfl
theorem eqT95 {a b : List Sc} : abin Try.prog .eql 95 (.g a) (.g b) = (csEq [.q, .n, .q, .n, .q, .n, .q, .n, .q, .n, .q, .n, .q, .n, .q, .n] a b).bind (eqU .eql) := ab_g_eql _ (by simp only [dT95, D.agg]) gT95
theorem neT95 {a b : List Sc} : abin Try.prog .neq 95 (.g a) (.g b) = (csEq [.q, .n, .q, .n, .q, .n, .q, .n, .q, .n, .q, .n, .q, .n, .q, .n] a b).bind (eqU .neq) := ab_g_neq _ (by simp only [dT95, D.agg]) gT95
theorem dT96 : dT Try.prog 96 = .st [(0, 90), (1, 64), (5, 95)] := by kernel_rfl
theorem sT96 : szT Try.prog 96 = 21 := by kernel_rfl
theorem bT96 : byT Try.prog 96 = 168 := by kernel_rfl
theorem zT96 : zT Try.prog 96 = some [.nilp, .i 0, .i 0, .i 0, .i 0, .b false, .u 0#64, .b false, .u 0#64, .b false, .u 0#64, .b false, .u 0#64, .b false, .u 0#64, .b false, .u 0#64, .b false, .u 0#64, .b false, .u 0#64] := by kernel_rfl
theorem dT97 : dT Try.prog 97 = .st [(0, 90), (1, 64), (5, 95)] := by kernel_rfl
theorem sT97 : szT Try.prog 97 = 21 := by kernel_rfl
theorem bT97 : byT Try.prog 97 = 168 := by kernel_rfl
theorem zT97 : zT Try.prog 97 = some [.nilp, .i 0, .i 0, .i 0, .i 0, .b false, .u 0#64, .b false, .u 0#64, .b false, .u 0#64, .b false, .u 0#64, .b false, .u 0#64, .b false, .u 0#64, .b false, .u 0#64, .b false, .u 0#64] := by kernel_rfl
theorem dT98 : dT Try.prog 98 = .other := by kernel_rfl
theorem sT98 : szT Try.prog 98 = 1 := by kernel_rfl
theorem bT98 : byT Try.prog 98 = 8 := by kernel_rfl
theorem zT98 : zT Try.prog 98 = some [.nilf] := by kernel_rfl
theorem eql1T98 {f : Nat} {c : List (Nat × Nat × Nat)}  : abin Try.prog .eql 98 (.c (.f f c)) (.c .nilf) = some (.c (.b false)) := by kernel_rfl
theorem eql2T98 : abin Try.prog .eql 98 (.c .nilf) (.c .nilf) = some (.c (.b true)) := by kernel_rfl
theorem neq1T98 {f : Nat} {c : List (Nat × Nat × Nat)}  : abin Try.prog .neq 98 (.c (.f f c)) (.c .nilf) = some (.c (.b true)) := by kernel_rfl
theorem neq2T98 : abin Try.prog .neq 98 (.c .nilf) (.c .nilf) = some (.c (.b false)) := by kernel_rfl
theorem dT99 : dT Try.prog 99 = .other := by kernel_rfl
theorem sT99 : szT Try.prog 99 = 1 := by kernel_rfl
theorem bT99 : byT Try.prog 99 = 8 := by kernel_rfl
theorem zT99 : zT Try.prog 99 = some [.nilf] := by kernel_rfl
theorem eql1T99 {f : Nat} {c : List (Nat × Nat × Nat)}  : abin Try.prog .eql 99 (.c (.f f c)) (.c .nilf) = some (.c (.b false)) := by kernel_rfl
theorem eql2T99 : abin Try.prog .eql 99 (.c .nilf) (.c .nilf) = some (.c (.b true)) := by kernel_rfl
theorem neq1T99 {f : Nat} {c : List (Nat × Nat × Nat)}  : abin Try.prog .neq 99 (.c (.f f c)) (.c .nilf) = some (.c (.b true)) := by kernel_rfl
theorem neq2T99 : abin Try.prog .neq 99 (.c .nilf) (.c .nilf) = some (.c (.b false)) := by kernel_rfl
theorem dT100 : dT Try.prog 100 = .other := by kernel_rfl
theorem sT100 : szT Try.prog 100 = 1 := by kernel_rfl
theorem bT100 : byT Try.prog 100 = 8 := by kernel_rfl
theorem zT100 : zT Try.prog 100 = some [.nilf] := by kernel_rfl
theorem eql1T100 {f : Nat} {c : List (Nat × Nat × Nat)}  : abin Try.prog .eql 100 (.c (.f f c)) (.c .nilf) = some (.c (.b false)) := by kernel_rfl
theorem eql2T100 : abin Try.prog .eql 100 (.c .nilf) (.c .nilf) = some (.c (.b true)) := by kernel_rfl
theorem neq1T100 {f : Nat} {c : List (Nat × Nat × Nat)}  : abin Try.prog .neq 100 (.c (.f f c)) (.c .nilf) = some (.c (.b true)) := by kernel_rfl
theorem neq2T100 : abin Try.prog .neq 100 (.c .nilf) (.c .nilf) = some (.c (.b false)) := by kernel_rfl
theorem dT101 : dT Try.prog 101 = .other := by kernel_rfl
theorem sT101 : szT Try.prog 101 = 1 := by kernel_rfl
theorem bT101 : byT Try.prog 101 = 8 := by kernel_rfl
theorem zT101 : zT Try.prog 101 = some [.nilf] := by kernel_rfl
theorem eql1T101 {f : Nat} {c : List (Nat × Nat × Nat)}  : abin Try.prog .eql 101 (.c (.f f c)) (.c .nilf) = some (.c (.b false)) := by kernel_rfl
theorem eql2T101 : abin Try.prog .eql 101 (.c .nilf) (.c .nilf) = some (.c (.b true)) := by kernel_rfl
theorem neq1T101 {f : Nat} {c : List (Nat × Nat × Nat)}  : abin Try.prog .neq 101 (.c (.f f c)) (.c .nilf) = some (.c (.b true)) := by kernel_rfl
theorem neq2T101 : abin Try.prog .neq 101 (.c .nilf) (.c .nilf) = some (.c (.b false)) := by kernel_rfl
theorem dT102 : dT Try.prog 102 = .other := by kernel_rfl
theorem sT102 : szT Try.prog 102 = 1 := by kernel_rfl
theorem bT102 : byT Try.prog 102 = 8 := by kernel_rfl
theorem zT102 : zT Try.prog 102 = some [.nilf] := by kernel_rfl
theorem eql1T102 {f : Nat} {c : List (Nat × Nat × Nat)}  : abin Try.prog .eql 102 (.c (.f f c)) (.c .nilf) = some (.c (.b false)) := by kernel_rfl
theorem eql2T102 : abin Try.prog .eql 102 (.c .nilf) (.c .nilf) = some (.c (.b true)) := by kernel_rfl
theorem neq1T102 {f : Nat} {c : List (Nat × Nat × Nat)}  : abin Try.prog .neq 102 (.c (.f f c)) (.c .nilf) = some (.c (.b true)) := by kernel_rfl
theorem neq2T102 : abin Try.prog .neq 102 (.c .nilf) (.c .nilf) = some (.c (.b false)) := by kernel_rfl
theorem dT103 : dT Try.prog 103 = .other := by kernel_rfl
theorem sT103 : szT Try.prog 103 = 1 := by kernel_rfl
theorem bT103 : byT Try.prog 103 = 8 := by kernel_rfl
theorem zT103 : zT Try.prog 103 = some [.nilf] := by kernel_rfl
theorem eql1T103 {f : Nat} {c : List (Nat × Nat × Nat)}  : abin Try.prog .eql 103 (.c (.f f c)) (.c .nilf) = some (.c (.b false)) := by kernel_rfl
theorem eql2T103 : abin Try.prog .eql 103 (.c .nilf) (.c .nilf) = some (.c (.b true)) := by kernel_rfl
theorem neq1T103 {f : Nat} {c : List (Nat × Nat × Nat)}  : abin Try.prog .neq 103 (.c (.f f c)) (.c .nilf) = some (.c (.b true)) := by kernel_rfl
theorem neq2T103 : abin Try.prog .neq 103 (.c .nilf) (.c .nilf) = some (.c (.b false)) := by kernel_rfl
theorem dT104 : dT Try.prog 104 = .arr 3 3 := by kernel_rfl
theorem sT104 : szT Try.prog 104 = 3 := by kernel_rfl
theorem bT104 : byT Try.prog 104 = 24 := by kernel_rfl
theorem zT104 : zT Try.prog 104 = some [.i 0, .i 0, .i 0] := by kernel_rfl
theorem gT104 : tagsT Try.prog 12 104 = some [.n, .n, .n] := by kernel_rfl
theorem eqT104 {a b : List Sc} : abin Try.prog .eql 104 (.g a) (.g b) = (csEq [.n, .n, .n] a b).bind (eqU .eql) := ab_g_eql _ (by simp only [dT104, D.agg]) gT104
theorem neT104 {a b : List Sc} : abin Try.prog .neq 104 (.g a) (.g b) = (csEq [.n, .n, .n] a b).bind (eqU .neq) := ab_g_neq _ (by simp only [dT104, D.agg]) gT104
theorem dT105 : dT Try.prog 105 = .other := by kernel_rfl
theorem sT105 : szT Try.prog 105 = 1 := by kernel_rfl
theorem bT105 : byT Try.prog 105 = 8 := by kernel_rfl
theorem zT105 : zT Try.prog 105 = some [.nilf] := by kernel_rfl
theorem eql1T105 {f : Nat} {c : List (Nat × Nat × Nat)}  : abin Try.prog .eql 105 (.c (.f f c)) (.c .nilf) = some (.c (.b false)) := by kernel_rfl
theorem eql2T105 : abin Try.prog .eql 105 (.c .nilf) (.c .nilf) = some (.c (.b true)) := by kernel_rfl
theorem neq1T105 {f : Nat} {c : List (Nat × Nat × Nat)}  : abin Try.prog .neq 105 (.c (.f f c)) (.c .nilf) = some (.c (.b true)) := by kernel_rfl
theorem neq2T105 : abin Try.prog .neq 105 (.c .nilf) (.c .nilf) = some (.c (.b false)) := by kernel_rfl
theorem dT106 : dT Try.prog 106 = .int .u64 := by kernel_rfl
theorem sT106 : szT Try.prog 106 = 1 := by kernel_rfl
theorem bT106 : byT Try.prog 106 = 8 := by kernel_rfl
theorem zT106 : zT Try.prog 106 = some [.u 0#64] := by kernel_rfl
theorem dT107 : dT Try.prog 107 = .other := by kernel_rfl
theorem sT107 : szT Try.prog 107 = 1 := by kernel_rfl
theorem bT107 : byT Try.prog 107 = 8 := by kernel_rfl
theorem zT107 : zT Try.prog 107 = some [.nilf] := by kernel_rfl
theorem eql1T107 {f : Nat} {c : List (Nat × Nat × Nat)}  : abin Try.prog .eql 107 (.c (.f f c)) (.c .nilf) = some (.c (.b false)) := by kernel_rfl
theorem eql2T107 : abin Try.prog .eql 107 (.c .nilf) (.c .nilf) = some (.c (.b true)) := by kernel_rfl
theorem neq1T107 {f : Nat} {c : List (Nat × Nat × Nat)}  : abin Try.prog .neq 107 (.c (.f f c)) (.c .nilf) = some (.c (.b true)) := by kernel_rfl
theorem neq2T107 : abin Try.prog .neq 107 (.c .nilf) (.c .nilf) = some (.c (.b false)) := by kernel_rfl
theorem dT108 : dT Try.prog 108 = .other := by kernel_rfl
theorem sT108 : szT Try.prog 108 = 1 := by kernel_rfl
theorem bT108 : byT Try.prog 108 = 8 := by kernel_rfl
theorem zT108 : zT Try.prog 108 = some [.nilf] := by kernel_rfl
theorem eql1T108 {f : Nat} {c : List (Nat × Nat × Nat)}  : abin Try.prog .eql 108 (.c (.f f c)) (.c .nilf) = some (.c (.b false)) := by kernel_rfl
theorem eql2T108 : abin Try.prog .eql 108 (.c .nilf) (.c .nilf) = some (.c (.b true)) := by kernel_rfl
theorem neq1T108 {f : Nat} {c : List (Nat × Nat × Nat)}  : abin Try.prog .neq 108 (.c (.f f c)) (.c .nilf) = some (.c (.b true)) := by kernel_rfl
theorem neq2T108 : abin Try.prog .neq 108 (.c .nilf) (.c .nilf) = some (.c (.b false)) := by kernel_rfl
theorem dT109 : dT Try.prog 109 = .other := by kernel_rfl
theorem sT109 : szT Try.prog 109 = 1 := by kernel_rfl
theorem bT109 : byT Try.prog 109 = 8 := by kernel_rfl
theorem zT109 : zT Try.prog 109 = some [.nilf] := by kernel_rfl
theorem eql1T109 {f : Nat} {c : List (Nat × Nat × Nat)}  : abin Try.prog .eql 109 (.c (.f f c)) (.c .nilf) = some (.c (.b false)) := by kernel_rfl
theorem eql2T109 : abin Try.prog .eql 109 (.c .nilf) (.c .nilf) = some (.c (.b true)) := by kernel_rfl
theorem neq1T109 {f : Nat} {c : List (Nat × Nat × Nat)}  : abin Try.prog .neq 109 (.c (.f f c)) (.c .nilf) = some (.c (.b true)) := by kernel_rfl
theorem neq2T109 : abin Try.prog .neq 109 (.c .nilf) (.c .nilf) = some (.c (.b false)) := by kernel_rfl
theorem dT110 : dT Try.prog 110 = .other := by kernel_rfl
theorem sT110 : szT Try.prog 110 = 1 := by kernel_rfl
theorem bT110 : byT Try.prog 110 = 8 := by kernel_rfl
theorem zT110 : zT Try.prog 110 = some [.nilf] := by kernel_rfl
theorem eql1T110 {f : Nat} {c : List (Nat × Nat × Nat)}  : abin Try.prog .eql 110 (.c (.f f c)) (.c .nilf) = some (.c (.b false)) := by kernel_rfl
theorem eql2T110 : abin Try.prog .eql 110 (.c .nilf) (.c .nilf) = some (.c (.b true)) := by kernel_rfl
theorem neq1T110 {f : Nat} {c : List (Nat × Nat × Nat)}  : abin Try.prog .neq 110 (.c (.f f c)) (.c .nilf) = some (.c (.b true)) := by kernel_rfl
theorem neq2T110 : abin Try.prog .neq 110 (.c .nilf) (.c .nilf) = some (.c (.b false)) := by kernel_rfl
theorem dT111 : dT Try.prog 111 = .other := by kernel_rfl
theorem sT111 : szT Try.prog 111 = 1 := by kernel_rfl
theorem bT111 : byT Try.prog 111 = 8 := by kernel_rfl
theorem zT111 : zT Try.prog 111 = some [.nilf] := by kernel_rfl
theorem eql1T111 {f : Nat} {c : List (Nat × Nat × Nat)}  : abin Try.prog .eql 111 (.c (.f f c)) (.c .nilf) = some (.c (.b false)) := by kernel_rfl
theorem eql2T111 : abin Try.prog .eql 111 (.c .nilf) (.c .nilf) = some (.c (.b true)) := by kernel_rfl
theorem neq1T111 {f : Nat} {c : List (Nat × Nat × Nat)}  : abin Try.prog .neq 111 (.c (.f f c)) (.c .nilf) = some (.c (.b true)) := by kernel_rfl
theorem neq2T111 : abin Try.prog .neq 111 (.c .nilf) (.c .nilf) = some (.c (.b false)) := by kernel_rfl
theorem dT112 : dT Try.prog 112 = .other := by kernel_rfl
theorem sT112 : szT Try.prog 112 = 1 := by kernel_rfl
theorem bT112 : byT Try.prog 112 = 8 := by kernel_rfl
theorem zT112 : zT Try.prog 112 = some [.nilf] := by kernel_rfl
theorem eql1T112 {f : Nat} {c : List (Nat × Nat × Nat)}  : abin Try.prog .eql 112 (.c (.f f c)) (.c .nilf) = some (.c (.b false)) := by kernel_rfl
theorem eql2T112 : abin Try.prog .eql 112 (.c .nilf) (.c .nilf) = some (.c (.b true)) := by kernel_rfl
theorem neq1T112 {f : Nat} {c : List (Nat × Nat × Nat)}  : abin Try.prog .neq 112 (.c (.f f c)) (.c .nilf) = some (.c (.b true)) := by kernel_rfl
theorem neq2T112 : abin Try.prog .neq 112 (.c .nilf) (.c .nilf) = some (.c (.b false)) := by kernel_rfl
theorem mT113 : mT Try.prog 113 = some (157, 145) := by kernel_rfl
theorem kA157 : kA Try.prog 157 = some true := by kernel_rfl
theorem kOkG157 {l : List Sc} : kOk Try.prog 157 (.g l) = decide (l.length = 2) := by unfold kOk; rw [kA157]; rfl
theorem zA145 : zA Try.prog 145 = some (.g (zRow 64 (.k .u8 (0)))) := by kernel_rfl
theorem dT114 : dT Try.prog 114 = .st [(0, 3), (1, 113)] := by kernel_rfl
theorem sT114 : szT Try.prog 114 = 2 := by kernel_rfl
theorem bT114 : byT Try.prog 114 = 16 := by kernel_rfl
theorem zT114 : zT Try.prog 114 = some [.i 0, .nilm] := by kernel_rfl
theorem dT115 : dT Try.prog 115 = .st [(0, 3), (1, 113)] := by kernel_rfl
theorem sT115 : szT Try.prog 115 = 2 := by kernel_rfl
theorem bT115 : byT Try.prog 115 = 16 := by kernel_rfl
theorem zT115 : zT Try.prog 115 = some [.i 0, .nilm] := by kernel_rfl
theorem dT116 : dT Try.prog 116 = .sl 122 := by kernel_rfl
theorem sT116 : szT Try.prog 116 = 1 := by kernel_rfl
theorem bT116 : byT Try.prog 116 = 24 := by kernel_rfl
theorem zT116 : zT Try.prog 116 = some [.nils] := by kernel_rfl
theorem eql1T116 {a b c n : Nat}  : abin Try.prog .eql 116 (.c (.sl a b c n)) (.c .nils) = if n = 0 then some (.c .qq) else some (.c (.b false)) := by kernel_rfl
theorem eql2T116 : abin Try.prog .eql 116 (.c .nils) (.c .nils) = some (.c (.b true)) := by kernel_rfl
theorem neq1T116 {a b c n : Nat}  : abin Try.prog .neq 116 (.c (.sl a b c n)) (.c .nils) = if n = 0 then some (.c .qq) else some (.c (.b true)) := by kernel_rfl
theorem neq2T116 : abin Try.prog .neq 116 (.c .nils) (.c .nils) = some (.c (.b false)) := by kernel_rfl
theorem dT117 : dT Try.prog 117 = .other := by kernel_rfl
theorem sT117 : szT Try.prog 117 = 1 := by kernel_rfl
theorem bT117 : byT Try.prog 117 = 8 := by kernel_rfl
theorem zT117 : zT Try.prog 117 = some [.nilf] := by kernel_rfl
theorem eql1T117 {f : Nat} {c : List (Nat × Nat × Nat)}  : abin Try.prog .eql 117 (.c (.f f c)) (.c .nilf) = some (.c (.b false)) := by kernel_rfl
theorem eql2T117 : abin Try.prog .eql 117 (.c .nilf) (.c .nilf) = some (.c (.b true)) := by kernel_rfl
theorem neq1T117 {f : Nat} {c : List (Nat × Nat × Nat)}  : abin Try.prog .neq 117 (.c (.f f c)) (.c .nilf) = some (.c (.b true)) := by kernel_rfl
theorem neq2T117 : abin Try.prog .neq 117 (.c .nilf) (.c .nilf) = some (.c (.b false)) := by kernel_rfl
theorem dT118 : dT Try.prog 118 = .st [(0, 22), (1, 22), (2, 3), (3, 3)] := by kernel_rfl
theorem sT118 : szT Try.prog 118 = 4 := by kernel_rfl
theorem bT118 : byT Try.prog 118 = 32 := by kernel_rfl
theorem zT118 : zT Try.prog 118 = some [.u 0#64, .u 0#64, .i 0, .i 0] := by kernel_rfl
theorem dT119 : dT Try.prog 119 = .st [(0, 22), (1, 22), (2, 3), (3, 3)] := by kernel_rfl
theorem sT119 : szT Try.prog 119 = 4 := by kernel_rfl
theorem bT119 : byT Try.prog 119 = 32 := by kernel_rfl
theorem zT119 : zT Try.prog 119 = some [.u 0#64, .u 0#64, .i 0, .i 0] := by kernel_rfl
theorem gT119 : tagsT Try.prog 12 119 = some [.n, .n, .n, .n] := by kernel_rfl
theorem eqT119 {a b : List Sc} : abin Try.prog .eql 119 (.g a) (.g b) = (csEq [.n, .n, .n, .n] a b).bind (eqU .eql) := ab_g_eql _ (by simp only [dT119, D.agg]) gT119
theorem neT119 {a b : List Sc} : abin Try.prog .neq 119 (.g a) (.g b) = (csEq [.n, .n, .n, .n] a b).bind (eqU .neq) := ab_g_neq _ (by simp only [dT119, D.agg]) gT119
theorem dT120 : dT Try.prog 120 = .other := by kernel_rfl
theorem sT120 : szT Try.prog 120 = 1 := by kernel_rfl
theorem bT120 : byT Try.prog 120 = 8 := by kernel_rfl
theorem zT120 : zT Try.prog 120 = some [.nilf] := by kernel_rfl
theorem eql1T120 {f : Nat} {c : List (Nat × Nat × Nat)}  : abin Try.prog .eql 120 (.c (.f f c)) (.c .nilf) = some (.c (.b false)) := by kernel_rfl
theorem eql2T120 : abin Try.prog .eql 120 (.c .nilf) (.c .nilf) = some (.c (.b true)) := by kernel_rfl
theorem neq1T120 {f : Nat} {c : List (Nat × Nat × Nat)}  : abin Try.prog .neq 120 (.c (.f f c)) (.c .nilf) = some (.c (.b true)) := by kernel_rfl
theorem neq2T120 : abin Try.prog .neq 120 (.c .nilf) (.c .nilf) = some (.c (.b false)) := by kernel_rfl
theorem dT121 : dT Try.prog 121 = .st [(0, 22), (1, 3), (2, 3)] := by kernel_rfl
theorem sT121 : szT Try.prog 121 = 3 := by kernel_rfl
theorem bT121 : byT Try.prog 121 = 24 := by kernel_rfl
theorem zT121 : zT Try.prog 121 = some [.u 0#64, .i 0, .i 0] := by kernel_rfl
theorem dT122 : dT Try.prog 122 = .st [(0, 22), (1, 3), (2, 3)] := by kernel_rfl
theorem sT122 : szT Try.prog 122 = 3 := by kernel_rfl
theorem bT122 : byT Try.prog 122 = 24 := by kernel_rfl
theorem zT122 : zT Try.prog 122 = some [.u 0#64, .i 0, .i 0] := by kernel_rfl
theorem gT122 : tagsT Try.prog 12 122 = some [.n, .n, .n] := by kernel_rfl
theorem eqT122 {a b : List Sc} : abin Try.prog .eql 122 (.g a) (.g b) = (csEq [.n, .n, .n] a b).bind (eqU .eql) := ab_g_eql _ (by simp only [dT122, D.agg]) gT122
theorem neT122 {a b : List Sc} : abin Try.prog .neq 122 (.g a) (.g b) = (csEq [.n, .n, .n] a b).bind (eqU .neq) := ab_g_neq _ (by simp only [dT122, D.agg]) gT122
theorem dT123 : dT Try.prog 123 = .sl 22 := by kernel_rfl
theorem sT123 : szT Try.prog 123 = 1 := by kernel_rfl
theorem bT123 : byT Try.prog 123 = 24 := by kernel_rfl
theorem zT123 : zT Try.prog 123 = some [.nils] := by kernel_rfl
theorem eql1T123 {a b c n : Nat}  : abin Try.prog .eql 123 (.c (.sl a b c n)) (.c .nils) = if n = 0 then some (.c .qq) else some (.c (.b false)) := by kernel_rfl
theorem eql2T123 : abin Try.prog .eql 123 (.c .nils) (.c .nils) = some (.c (.b true)) := by kernel_rfl
theorem neq1T123 {a b c n : Nat}  : abin Try.prog .neq 123 (.c (.sl a b c n)) (.c .nils) = if n = 0 then some (.c .qq) else some (.c (.b true)) := by kernel_rfl
theorem neq2T123 : abin Try.prog .neq 123 (.c .nils) (.c .nils) = some (.c (.b false)) := by kernel_rfl
theorem dT124 : dT Try.prog 124 = .other := by kernel_rfl
theorem sT124 : szT Try.prog 124 = 1 := by kernel_rfl
theorem bT124 : byT Try.prog 124 = 8 := by kernel_rfl
theorem zT124 : zT Try.prog 124 = some [.nilf] := by kernel_rfl
theorem eql1T124 {f : Nat} {c : List (Nat × Nat × Nat)}  : abin Try.prog .eql 124 (.c (.f f c)) (.c .nilf) = some (.c (.b false)) := by kernel_rfl
theorem eql2T124 : abin Try.prog .eql 124 (.c .nilf) (.c .nilf) = some (.c (.b true)) := by kernel_rfl
theorem neq1T124 {f : Nat} {c : List (Nat × Nat × Nat)}  : abin Try.prog .neq 124 (.c (.f f c)) (.c .nilf) = some (.c (.b true)) := by kernel_rfl
theorem neq2T124 : abin Try.prog .neq 124 (.c .nilf) (.c .nilf) = some (.c (.b false)) := by kernel_rfl
theorem dT125 : dT Try.prog 125 = .other := by kernel_rfl
theorem sT125 : szT Try.prog 125 = 1 := by kernel_rfl
theorem bT125 : byT Try.prog 125 = 8 := by kernel_rfl
theorem zT125 : zT Try.prog 125 = some [.nilf] := by kernel_rfl
theorem eql1T125 {f : Nat} {c : List (Nat × Nat × Nat)}  : abin Try.prog .eql 125 (.c (.f f c)) (.c .nilf) = some (.c (.b false)) := by kernel_rfl
theorem eql2T125 : abin Try.prog .eql 125 (.c .nilf) (.c .nilf) = some (.c (.b true)) := by kernel_rfl
theorem neq1T125 {f : Nat} {c : List (Nat × Nat × Nat)}  : abin Try.prog .neq 125 (.c (.f f c)) (.c .nilf) = some (.c (.b true)) := by kernel_rfl
theorem neq2T125 : abin Try.prog .neq 125 (.c .nilf) (.c .nilf) = some (.c (.b false)) := by kernel_rfl
theorem dT126 : dT Try.prog 126 = .other := by kernel_rfl
theorem sT126 : szT Try.prog 126 = 1 := by kernel_rfl
theorem bT126 : byT Try.prog 126 = 8 := by kernel_rfl
theorem zT126 : zT Try.prog 126 = some [.nilf] := by kernel_rfl
theorem eql1T126 {f : Nat} {c : List (Nat × Nat × Nat)}  : abin Try.prog .eql 126 (.c (.f f c)) (.c .nilf) = some (.c (.b false)) := by kernel_rfl
theorem eql2T126 : abin Try.prog .eql 126 (.c .nilf) (.c .nilf) = some (.c (.b true)) := by kernel_rfl
theorem neq1T126 {f : Nat} {c : List (Nat × Nat × Nat)}  : abin Try.prog .neq 126 (.c (.f f c)) (.c .nilf) = some (.c (.b true)) := by kernel_rfl
theorem neq2T126 : abin Try.prog .neq 126 (.c .nilf) (.c .nilf) = some (.c (.b false)) := by kernel_rfl
theorem dT127 : dT Try.prog 127 = .other := by kernel_rfl
theorem sT127 : szT Try.prog 127 = 1 := by kernel_rfl
theorem bT127 : byT Try.prog 127 = 8 := by kernel_rfl
theorem zT127 : zT Try.prog 127 = some [.nilf] := by kernel_rfl
theorem eql1T127 {f : Nat} {c : List (Nat × Nat × Nat)}  : abin Try.prog .eql 127 (.c (.f f c)) (.c .nilf) = some (.c (.b false)) := by kernel_rfl
theorem eql2T127 : abin Try.prog .eql 127 (.c .nilf) (.c .nilf) = some (.c (.b true)) := by kernel_rfl
theorem neq1T127 {f : Nat} {c : List (Nat × Nat × Nat)}  : abin Try.prog .neq 127 (.c (.f f c)) (.c .nilf) = some (.c (.b true)) := by kernel_rfl
theorem neq2T127 : abin Try.prog .neq 127 (.c .nilf) (.c .nilf) = some (.c (.b false)) := by kernel_rfl
theorem dT129 : dT Try.prog 129 = .other := by kernel_rfl
theorem sT129 : szT Try.prog 129 = 1 := by kernel_rfl
theorem bT129 : byT Try.prog 129 = 8 := by kernel_rfl
theorem zT129 : zT Try.prog 129 = some [.nilf] := by kernel_rfl
theorem eql1T129 {f : Nat} {c : List (Nat × Nat × Nat)}  : abin Try.prog .eql 129 (.c (.f f c)) (.c .nilf) = some (.c (.b false)) := by kernel_rfl
theorem eql2T129 : abin Try.prog .eql 129 (.c .nilf) (.c .nilf) = some (.c (.b true)) := by kernel_rfl
theorem neq1T129 {f : Nat} {c : List (Nat × Nat × Nat)}  : abin Try.prog .neq 129 (.c (.f f c)) (.c .nilf) = some (.c (.b true)) := by kernel_rfl
theorem neq2T129 : abin Try.prog .neq 129 (.c .nilf) (.c .nilf) = some (.c (.b false)) := by kernel_rfl
theorem dT130 : dT Try.prog 130 = .other := by kernel_rfl
theorem sT130 : szT Try.prog 130 = 1 := by kernel_rfl
theorem bT130 : byT Try.prog 130 = 8 := by kernel_rfl
theorem zT130 : zT Try.prog 130 = some [.nilf] := by kernel_rfl
theorem eql1T130 {f : Nat} {c : List (Nat × Nat × Nat)}  : abin Try.prog .eql 130 (.c (.f f c)) (.c .nilf) = some (.c (.b false)) := by kernel_rfl
theorem eql2T130 : abin Try.prog .eql 130 (.c .nilf) (.c .nilf) = some (.c (.b true)) := by kernel_rfl
theorem neq1T130 {f : Nat} {c : List (Nat × Nat × Nat)}  : abin Try.prog .neq 130 (.c (.f f c)) (.c .nilf) = some (.c (.b true)) := by kernel_rfl
theorem neq2T130 : abin Try.prog .neq 130 (.c .nilf) (.c .nilf) = some (.c (.b false)) := by kernel_rfl
theorem dT131 : dT Try.prog 131 = .other := by kernel_rfl
theorem sT131 : szT Try.prog 131 = 1 := by kernel_rfl
theorem bT131 : byT Try.prog 131 = 8 := by kernel_rfl
theorem zT131 : zT Try.prog 131 = some [.nilf] := by kernel_rfl
theorem eql1T131 {f : Nat} {c : List (Nat × Nat × Nat)}  : abin Try.prog .eql 131 (.c (.f f c)) (.c .nilf) = some (.c (.b false)) := by kernel_rfl
theorem eql2T131 : abin Try.prog .eql 131 (.c .nilf) (.c .nilf) = some (.c (.b true)) := by kernel_rfl
theorem neq1T131 {f : Nat} {c : List (Nat × Nat × Nat)}  : abin Try.prog .neq 131 (.c (.f f c)) (.c .nilf) = some (.c (.b true)) := by kernel_rfl
theorem neq2T131 : abin Try.prog .neq 131 (.c .nilf) (.c .nilf) = some (.c (.b false)) := by kernel_rfl
theorem dT132 : dT Try.prog 132 = .ptr 95 := by kernel_rfl
theorem sT132 : szT Try.prog 132 = 1 := by kernel_rfl
theorem bT132 : byT Try.prog 132 = 8 := by kernel_rfl
theorem zT132 : zT Try.prog 132 = some [.nilp] := by kernel_rfl
theorem eql1T132 {a b c : Nat}  : abin Try.prog .eql 132 (.c (.p a b c)) (.c .nilp) = some (.c (.b false)) := by kernel_rfl
theorem eql2T132 : abin Try.prog .eql 132 (.c .nilp) (.c .nilp) = some (.c (.b true)) := by kernel_rfl
theorem neq1T132 {a b c : Nat}  : abin Try.prog .neq 132 (.c (.p a b c)) (.c .nilp) = some (.c (.b true)) := by kernel_rfl
theorem neq2T132 : abin Try.prog .neq 132 (.c .nilp) (.c .nilp) = some (.c (.b false)) := by kernel_rfl
theorem dT133 : dT Try.prog 133 = .sl 3 := by kernel_rfl
theorem sT133 : szT Try.prog 133 = 1 := by kernel_rfl
theorem bT133 : byT Try.prog 133 = 24 := by kernel_rfl
theorem zT133 : zT Try.prog 133 = some [.nils] := by kernel_rfl
theorem eql1T133 {a b c n : Nat}  : abin Try.prog .eql 133 (.c (.sl a b c n)) (.c .nils) = if n = 0 then some (.c .qq) else some (.c (.b false)) := by kernel_rfl
theorem eql2T133 : abin Try.prog .eql 133 (.c .nils) (.c .nils) = some (.c (.b true)) := by kernel_rfl
theorem neq1T133 {a b c n : Nat}  : abin Try.prog .neq 133 (.c (.sl a b c n)) (.c .nils) = if n = 0 then some (.c .qq) else some (.c (.b true)) := by kernel_rfl
theorem neq2T133 : abin Try.prog .neq 133 (.c .nils) (.c .nils) = some (.c (.b false)) := by kernel_rfl
theorem dT134 : dT Try.prog 134 = .other := by kernel_rfl
theorem sT134 : szT Try.prog 134 = 1 := by kernel_rfl
theorem bT134 : byT Try.prog 134 = 8 := by kernel_rfl
theorem zT134 : zT Try.prog 134 = some [.nilf] := by kernel_rfl
theorem eql1T134 {f : Nat} {c : List (Nat × Nat × Nat)}  : abin Try.prog .eql 134 (.c (.f f c)) (.c .nilf) = some (.c (.b false)) := by kernel_rfl
theorem eql2T134 : abin Try.prog .eql 134 (.c .nilf) (.c .nilf) = some (.c (.b true)) := by kernel_rfl
theorem neq1T134 {f : Nat} {c : List (Nat × Nat × Nat)}  : abin Try.prog .neq 134 (.c (.f f c)) (.c .nilf) = some (.c (.b true)) := by kernel_rfl
theorem neq2T134 : abin Try.prog .neq 134 (.c .nilf) (.c .nilf) = some (.c (.b false)) := by kernel_rfl
theorem dT135 : dT Try.prog 135 = .other := by kernel_rfl
theorem sT135 : szT Try.prog 135 = 1 := by kernel_rfl
theorem bT135 : byT Try.prog 135 = 8 := by kernel_rfl
theorem zT135 : zT Try.prog 135 = some [.nilf] := by kernel_rfl
theorem eql1T135 {f : Nat} {c : List (Nat × Nat × Nat)}  : abin Try.prog .eql 135 (.c (.f f c)) (.c .nilf) = some (.c (.b false)) := by kernel_rfl
theorem eql2T135 : abin Try.prog .eql 135 (.c .nilf) (.c .nilf) = some (.c (.b true)) := by kernel_rfl
theorem neq1T135 {f : Nat} {c : List (Nat × Nat × Nat)}  : abin Try.prog .neq 135 (.c (.f f c)) (.c .nilf) = some (.c (.b true)) := by kernel_rfl
theorem neq2T135 : abin Try.prog .neq 135 (.c .nilf) (.c .nilf) = some (.c (.b false)) := by kernel_rfl
theorem dT137 : dT Try.prog 137 = .other := by kernel_rfl
theorem sT137 : szT Try.prog 137 = 1 := by kernel_rfl
theorem bT137 : byT Try.prog 137 = 8 := by kernel_rfl
theorem zT137 : zT Try.prog 137 = some [.nilf] := by kernel_rfl
theorem eql1T137 {f : Nat} {c : List (Nat × Nat × Nat)}  : abin Try.prog .eql 137 (.c (.f f c)) (.c .nilf) = some (.c (.b false)) := by kernel_rfl
theorem eql2T137 : abin Try.prog .eql 137 (.c .nilf) (.c .nilf) = some (.c (.b true)) := by kernel_rfl
theorem neq1T137 {f : Nat} {c : List (Nat × Nat × Nat)}  : abin Try.prog .neq 137 (.c (.f f c)) (.c .nilf) = some (.c (.b true)) := by kernel_rfl
theorem neq2T137 : abin Try.prog .neq 137 (.c .nilf) (.c .nilf) = some (.c (.b false)) := by kernel_rfl
theorem dT138 : dT Try.prog 138 = .other := by kernel_rfl
theorem sT138 : szT Try.prog 138 = 1 := by kernel_rfl
theorem bT138 : byT Try.prog 138 = 8 := by kernel_rfl
theorem zT138 : zT Try.prog 138 = some [.nilf] := by kernel_rfl
theorem eql1T138 {f : Nat} {c : List (Nat × Nat × Nat)}  : abin Try.prog .eql 138 (.c (.f f c)) (.c .nilf) = some (.c (.b false)) := by kernel_rfl
theorem eql2T138 : abin Try.prog .eql 138 (.c .nilf) (.c .nilf) = some (.c (.b true)) := by kernel_rfl
theorem neq1T138 {f : Nat} {c : List (Nat × Nat × Nat)}  : abin Try.prog .neq 138 (.c (.f f c)) (.c .nilf) = some (.c (.b true)) := by kernel_rfl
theorem neq2T138 : abin Try.prog .neq 138 (.c .nilf) (.c .nilf) = some (.c (.b false)) := by kernel_rfl
theorem dT139 : dT Try.prog 139 = .other := by kernel_rfl
theorem sT139 : szT Try.prog 139 = 1 := by kernel_rfl
theorem bT139 : byT Try.prog 139 = 8 := by kernel_rfl
theorem zT139 : zT Try.prog 139 = some [.nilf] := by kernel_rfl
theorem eql1T139 {f : Nat} {c : List (Nat × Nat × Nat)}  : abin Try.prog .eql 139 (.c (.f f c)) (.c .nilf) = some (.c (.b false)) := by kernel_rfl
theorem eql2T139 : abin Try.prog .eql 139 (.c .nilf) (.c .nilf) = some (.c (.b true)) := by kernel_rfl
theorem neq1T139 {f : Nat} {c : List (Nat × Nat × Nat)}  : abin Try.prog .neq 139 (.c (.f f c)) (.c .nilf) = some (.c (.b true)) := by kernel_rfl
theorem neq2T139 : abin Try.prog .neq 139 (.c .nilf) (.c .nilf) = some (.c (.b false)) := by kernel_rfl
theorem dT140 : dT Try.prog 140 = .other := by kernel_rfl
theorem sT140 : szT Try.prog 140 = 1 := by kernel_rfl
theorem bT140 : byT Try.prog 140 = 8 := by kernel_rfl
theorem zT140 : zT Try.prog 140 = some [.nilf] := by kernel_rfl
theorem eql1T140 {f : Nat} {c : List (Nat × Nat × Nat)}  : abin Try.prog .eql 140 (.c (.f f c)) (.c .nilf) = some (.c (.b false)) := by kernel_rfl
theorem eql2T140 : abin Try.prog .eql 140 (.c .nilf) (.c .nilf) = some (.c (.b true)) := by kernel_rfl
theorem neq1T140 {f : Nat} {c : List (Nat × Nat × Nat)}  : abin Try.prog .neq 140 (.c (.f f c)) (.c .nilf) = some (.c (.b true)) := by kernel_rfl
theorem neq2T140 : abin Try.prog .neq 140 (.c .nilf) (.c .nilf) = some (.c (.b false)) := by kernel_rfl
theorem dT141 : dT Try.prog 141 = .other := by kernel_rfl
theorem sT141 : szT Try.prog 141 = 1 := by kernel_rfl
theorem bT141 : byT Try.prog 141 = 8 := by kernel_rfl
theorem zT141 : zT Try.prog 141 = some [.nilf] := by kernel_rfl
theorem eql1T141 {f : Nat} {c : List (Nat × Nat × Nat)}  : abin Try.prog .eql 141 (.c (.f f c)) (.c .nilf) = some (.c (.b false)) := by kernel_rfl
theorem eql2T141 : abin Try.prog .eql 141 (.c .nilf) (.c .nilf) = some (.c (.b true)) := by kernel_rfl
theorem neq1T141 {f : Nat} {c : List (Nat × Nat × Nat)}  : abin Try.prog .neq 141 (.c (.f f c)) (.c .nilf) = some (.c (.b true)) := by kernel_rfl
theorem neq2T141 : abin Try.prog .neq 141 (.c .nilf) (.c .nilf) = some (.c (.b false)) := by kernel_rfl
theorem dT143 : dT Try.prog 143 = .other := by kernel_rfl
theorem sT143 : szT Try.prog 143 = 1 := by kernel_rfl
theorem bT143 : byT Try.prog 143 = 8 := by kernel_rfl
theorem zT143 : zT Try.prog 143 = some [.nilf] := by kernel_rfl
theorem eql1T143 {f : Nat} {c : List (Nat × Nat × Nat)}  : abin Try.prog .eql 143 (.c (.f f c)) (.c .nilf) = some (.c (.b false)) := by kernel_rfl
theorem eql2T143 : abin Try.prog .eql 143 (.c .nilf) (.c .nilf) = some (.c (.b true)) := by kernel_rfl
theorem neq1T143 {f : Nat} {c : List (Nat × Nat × Nat)}  : abin Try.prog .neq 143 (.c (.f f c)) (.c .nilf) = some (.c (.b true)) := by kernel_rfl
theorem neq2T143 : abin Try.prog .neq 143 (.c .nilf) (.c .nilf) = some (.c (.b false)) := by kernel_rfl
theorem dT144 : dT Try.prog 144 = .arr 64 5 := by kernel_rfl
theorem sT144 : szT Try.prog 144 = 64 := by kernel_rfl
theorem bT144 : byT Try.prog 144 = 64 := by kernel_rfl
theorem zT144 : zT Try.prog 144 = some (zRow 64 (.k .u8 (0))) := by kernel_rfl
theorem dT145 : dT Try.prog 145 = .arr 64 5 := by kernel_rfl
theorem sT145 : szT Try.prog 145 = 64 := by kernel_rfl
theorem bT145 : byT Try.prog 145 = 64 := by kernel_rfl
theorem zT145 : zT Try.prog 145 = some (zRow 64 (.k .u8 (0))) := by kernel_rfl
theorem dT146 : dT Try.prog 146 = .other := by kernel_rfl
theorem sT146 : szT Try.prog 146 = 1 := by kernel_rfl
theorem bT146 : byT Try.prog 146 = 8 := by kernel_rfl
theorem zT146 : zT Try.prog 146 = some [.nilf] := by kernel_rfl
theorem eql1T146 {f : Nat} {c : List (Nat × Nat × Nat)}  : abin Try.prog .eql 146 (.c (.f f c)) (.c .nilf) = some (.c (.b false)) := by kernel_rfl
theorem eql2T146 : abin Try.prog .eql 146 (.c .nilf) (.c .nilf) = some (.c (.b true)) := by kernel_rfl
theorem neq1T146 {f : Nat} {c : List (Nat × Nat × Nat)}  : abin Try.prog .neq 146 (.c (.f f c)) (.c .nilf) = some (.c (.b true)) := by kernel_rfl
theorem neq2T146 : abin Try.prog .neq 146 (.c .nilf) (.c .nilf) = some (.c (.b false)) := by kernel_rfl
theorem dT147 : dT Try.prog 147 = .other := by kernel_rfl
theorem sT147 : szT Try.prog 147 = 1 := by kernel_rfl
theorem bT147 : byT Try.prog 147 = 8 := by kernel_rfl
theorem zT147 : zT Try.prog 147 = some [.nilf] := by kernel_rfl
theorem eql1T147 {f : Nat} {c : List (Nat × Nat × Nat)}  : abin Try.prog .eql 147 (.c (.f f c)) (.c .nilf) = some (.c (.b false)) := by kernel_rfl
theorem eql2T147 : abin Try.prog .eql 147 (.c .nilf) (.c .nilf) = some (.c (.b true)) := by kernel_rfl
theorem neq1T147 {f : Nat} {c : List (Nat × Nat × Nat)}  : abin Try.prog .neq 147 (.c (.f f c)) (.c .nilf) = some (.c (.b true)) := by kernel_rfl
theorem neq2T147 : abin Try.prog .neq 147 (.c .nilf) (.c .nilf) = some (.c (.b false)) := by kernel_rfl
theorem dT148 : dT Try.prog 148 = .other := by kernel_rfl
theorem sT148 : szT Try.prog 148 = 1 := by kernel_rfl
theorem bT148 : byT Try.prog 148 = 8 := by kernel_rfl
theorem zT148 : zT Try.prog 148 = some [.nilf] := by kernel_rfl
theorem eql1T148 {f : Nat} {c : List (Nat × Nat × Nat)}  : abin Try.prog .eql 148 (.c (.f f c)) (.c .nilf) = some (.c (.b false)) := by kernel_rfl
theorem eql2T148 : abin Try.prog .eql 148 (.c .nilf) (.c .nilf) = some (.c (.b true)) := by kernel_rfl
theorem neq1T148 {f : Nat} {c : List (Nat × Nat × Nat)}  : abin Try.prog .neq 148 (.c (.f f c)) (.c .nilf) = some (.c (.b true)) := by kernel_rfl
theorem neq2T148 : abin Try.prog .neq 148 (.c .nilf) (.c .nilf) = some (.c (.b false)) := by kernel_rfl
theorem dT150 : dT Try.prog 150 = .other := by kernel_rfl
theorem sT150 : szT Try.prog 150 = 1 := by kernel_rfl
theorem bT150 : byT Try.prog 150 = 8 := by kernel_rfl
theorem zT150 : zT Try.prog 150 = some [.nilf] := by kernel_rfl
theorem eql1T150 {f : Nat} {c : List (Nat × Nat × Nat)}  : abin Try.prog .eql 150 (.c (.f f c)) (.c .nilf) = some (.c (.b false)) := by kernel_rfl
theorem eql2T150 : abin Try.prog .eql 150 (.c .nilf) (.c .nilf) = some (.c (.b true)) := by kernel_rfl
theorem neq1T150 {f : Nat} {c : List (Nat × Nat × Nat)}  : abin Try.prog .neq 150 (.c (.f f c)) (.c .nilf) = some (.c (.b true)) := by kernel_rfl
theorem neq2T150 : abin Try.prog .neq 150 (.c .nilf) (.c .nilf) = some (.c (.b false)) := by kernel_rfl
theorem dT151 : dT Try.prog 151 = .other := by kernel_rfl
theorem sT151 : szT Try.prog 151 = 1 := by kernel_rfl
theorem bT151 : byT Try.prog 151 = 8 := by kernel_rfl
theorem zT151 : zT Try.prog 151 = some [.nilf] := by kernel_rfl
theorem eql1T151 {f : Nat} {c : List (Nat × Nat × Nat)}  : abin Try.prog .eql 151 (.c (.f f c)) (.c .nilf) = some (.c (.b false)) := by kernel_rfl
theorem eql2T151 : abin Try.prog .eql 151 (.c .nilf) (.c .nilf) = some (.c (.b true)) := by kernel_rfl
theorem neq1T151 {f : Nat} {c : List (Nat × Nat × Nat)}  : abin Try.prog .neq 151 (.c (.f f c)) (.c .nilf) = some (.c (.b true)) := by kernel_rfl
theorem neq2T151 : abin Try.prog .neq 151 (.c .nilf) (.c .nilf) = some (.c (.b false)) := by kernel_rfl
theorem dT153 : dT Try.prog 153 = .other := by kernel_rfl
theorem sT153 : szT Try.prog 153 = 1 := by kernel_rfl
theorem bT153 : byT Try.prog 153 = 8 := by kernel_rfl
theorem zT153 : zT Try.prog 153 = some [.nilf] := by kernel_rfl
theorem eql1T153 {f : Nat} {c : List (Nat × Nat × Nat)}  : abin Try.prog .eql 153 (.c (.f f c)) (.c .nilf) = some (.c (.b false)) := by kernel_rfl
theorem eql2T153 : abin Try.prog .eql 153 (.c .nilf) (.c .nilf) = some (.c (.b true)) := by kernel_rfl
theorem neq1T153 {f : Nat} {c : List (Nat × Nat × Nat)}  : abin Try.prog .neq 153 (.c (.f f c)) (.c .nilf) = some (.c (.b true)) := by kernel_rfl
theorem neq2T153 : abin Try.prog .neq 153 (.c .nilf) (.c .nilf) = some (.c (.b false)) := by kernel_rfl
theorem dT154 : dT Try.prog 154 = .other := by kernel_rfl
theorem sT154 : szT Try.prog 154 = 1 := by kernel_rfl
theorem bT154 : byT Try.prog 154 = 8 := by kernel_rfl
theorem zT154 : zT Try.prog 154 = some [.nilf] := by kernel_rfl
theorem eql1T154 {f : Nat} {c : List (Nat × Nat × Nat)}  : abin Try.prog .eql 154 (.c (.f f c)) (.c .nilf) = some (.c (.b false)) := by kernel_rfl
theorem eql2T154 : abin Try.prog .eql 154 (.c .nilf) (.c .nilf) = some (.c (.b true)) := by kernel_rfl
theorem neq1T154 {f : Nat} {c : List (Nat × Nat × Nat)}  : abin Try.prog .neq 154 (.c (.f f c)) (.c .nilf) = some (.c (.b true)) := by kernel_rfl
theorem neq2T154 : abin Try.prog .neq 154 (.c .nilf) (.c .nilf) = some (.c (.b false)) := by kernel_rfl
theorem dT155 : dT Try.prog 155 = .other := by kernel_rfl
theorem sT155 : szT Try.prog 155 = 1 := by kernel_rfl
theorem bT155 : byT Try.prog 155 = 8 := by kernel_rfl
theorem zT155 : zT Try.prog 155 = some [.nilf] := by kernel_rfl
theorem eql1T155 {f : Nat} {c : List (Nat × Nat × Nat)}  : abin Try.prog .eql 155 (.c (.f f c)) (.c .nilf) = some (.c (.b false)) := by kernel_rfl
theorem eql2T155 : abin Try.prog .eql 155 (.c .nilf) (.c .nilf) = some (.c (.b true)) := by kernel_rfl
theorem neq1T155 {f : Nat} {c : List (Nat × Nat × Nat)}  : abin Try.prog .neq 155 (.c (.f f c)) (.c .nilf) = some (.c (.b true)) := by kernel_rfl
theorem neq2T155 : abin Try.prog .neq 155 (.c .nilf) (.c .nilf) = some (.c (.b false)) := by kernel_rfl
theorem dT156 : dT Try.prog 156 = .st [(0, 3), (1, 3)] := by kernel_rfl
theorem sT156 : szT Try.prog 156 = 2 := by kernel_rfl
theorem bT156 : byT Try.prog 156 = 16 := by kernel_rfl
theorem zT156 : zT Try.prog 156 = some [.i 0, .i 0] := by kernel_rfl
theorem dT157 : dT Try.prog 157 = .st [(0, 3), (1, 3)] := by kernel_rfl
theorem sT157 : szT Try.prog 157 = 2 := by kernel_rfl
theorem bT157 : byT Try.prog 157 = 16 := by kernel_rfl
theorem zT157 : zT Try.prog 157 = some [.i 0, .i 0] := by kernel_rfl
theorem gT157 : tagsT Try.prog 12 157 = some [.n, .n] := by kernel_rfl
theorem eqT157 {a b : List Sc} : abin Try.prog .eql 157 (.g a) (.g b) = (csEq [.n, .n] a b).bind (eqU .eql) := ab_g_eql _ (by simp only [dT157, D.agg]) gT157
theorem neT157 {a b : List Sc} : abin Try.prog .neq 157 (.g a) (.g b) = (csEq [.n, .n] a b).bind (eqU .neq) := ab_g_neq _ (by simp only [dT157, D.agg]) gT157
theorem dT158 : dT Try.prog 158 = .other := by kernel_rfl
theorem sT158 : szT Try.prog 158 = 1 := by kernel_rfl
theorem bT158 : byT Try.prog 158 = 8 := by kernel_rfl
theorem zT158 : zT Try.prog 158 = some [.nilf] := by kernel_rfl
theorem eql1T158 {f : Nat} {c : List (Nat × Nat × Nat)}  : abin Try.prog .eql 158 (.c (.f f c)) (.c .nilf) = some (.c (.b false)) := by kernel_rfl
theorem eql2T158 : abin Try.prog .eql 158 (.c .nilf) (.c .nilf) = some (.c (.b true)) := by kernel_rfl
theorem neq1T158 {f : Nat} {c : List (Nat × Nat × Nat)}  : abin Try.prog .neq 158 (.c (.f f c)) (.c .nilf) = some (.c (.b true)) := by kernel_rfl
theorem neq2T158 : abin Try.prog .neq 158 (.c .nilf) (.c .nilf) = some (.c (.b false)) := by kernel_rfl
theorem dT159 : dT Try.prog 159 = .other := by kernel_rfl
theorem sT159 : szT Try.prog 159 = 1 := by kernel_rfl
theorem bT159 : byT Try.prog 159 = 8 := by kernel_rfl
theorem zT159 : zT Try.prog 159 = some [.nilf] := by kernel_rfl
theorem eql1T159 {f : Nat} {c : List (Nat × Nat × Nat)}  : abin Try.prog .eql 159 (.c (.f f c)) (.c .nilf) = some (.c (.b false)) := by kernel_rfl
theorem eql2T159 : abin Try.prog .eql 159 (.c .nilf) (.c .nilf) = some (.c (.b true)) := by kernel_rfl
theorem neq1T159 {f : Nat} {c : List (Nat × Nat × Nat)}  : abin Try.prog .neq 159 (.c (.f f c)) (.c .nilf) = some (.c (.b true)) := by kernel_rfl
theorem neq2T159 : abin Try.prog .neq 159 (.c .nilf) (.c .nilf) = some (.c (.b false)) := by kernel_rfl
theorem dT160 : dT Try.prog 160 = .other := by kernel_rfl
theorem sT160 : szT Try.prog 160 = 1 := by kernel_rfl
theorem bT160 : byT Try.prog 160 = 8 := by kernel_rfl
theorem zT160 : zT Try.prog 160 = some [.nilf] := by kernel_rfl
theorem eql1T160 {f : Nat} {c : List (Nat × Nat × Nat)}  : abin Try.prog .eql 160 (.c (.f f c)) (.c .nilf) = some (.c (.b false)) := by kernel_rfl
theorem eql2T160 : abin Try.prog .eql 160 (.c .nilf) (.c .nilf) = some (.c (.b true)) := by kernel_rfl
theorem neq1T160 {f : Nat} {c : List (Nat × Nat × Nat)}  : abin Try.prog .neq 160 (.c (.f f c)) (.c .nilf) = some (.c (.b true)) := by kernel_rfl
theorem neq2T160 : abin Try.prog .neq 160 (.c .nilf) (.c .nilf) = some (.c (.b false)) := by kernel_rfl
theorem dT161 : dT Try.prog 161 = .other := by kernel_rfl
theorem sT161 : szT Try.prog 161 = 1 := by kernel_rfl
theorem bT161 : byT Try.prog 161 = 8 := by kernel_rfl
theorem zT161 : zT Try.prog 161 = some [.nilf] := by kernel_rfl
theorem eql1T161 {f : Nat} {c : List (Nat × Nat × Nat)}  : abin Try.prog .eql 161 (.c (.f f c)) (.c .nilf) = some (.c (.b false)) := by kernel_rfl
theorem eql2T161 : abin Try.prog .eql 161 (.c .nilf) (.c .nilf) = some (.c (.b true)) := by kernel_rfl
theorem neq1T161 {f : Nat} {c : List (Nat × Nat × Nat)}  : abin Try.prog .neq 161 (.c (.f f c)) (.c .nilf) = some (.c (.b true)) := by kernel_rfl
theorem neq2T161 : abin Try.prog .neq 161 (.c .nilf) (.c .nilf) = some (.c (.b false)) := by kernel_rfl
theorem dT162 : dT Try.prog 162 = .other := by kernel_rfl
theorem sT162 : szT Try.prog 162 = 1 := by kernel_rfl
theorem bT162 : byT Try.prog 162 = 8 := by kernel_rfl
theorem zT162 : zT Try.prog 162 = some [.nilf] := by kernel_rfl
theorem eql1T162 {f : Nat} {c : List (Nat × Nat × Nat)}  : abin Try.prog .eql 162 (.c (.f f c)) (.c .nilf) = some (.c (.b false)) := by kernel_rfl
theorem eql2T162 : abin Try.prog .eql 162 (.c .nilf) (.c .nilf) = some (.c (.b true)) := by kernel_rfl
theorem neq1T162 {f : Nat} {c : List (Nat × Nat × Nat)}  : abin Try.prog .neq 162 (.c (.f f c)) (.c .nilf) = some (.c (.b true)) := by kernel_rfl
theorem neq2T162 : abin Try.prog .neq 162 (.c .nilf) (.c .nilf) = some (.c (.b false)) := by kernel_rfl
theorem dT163 : dT Try.prog 163 = .other := by kernel_rfl
theorem sT163 : szT Try.prog 163 = 1 := by kernel_rfl
theorem bT163 : byT Try.prog 163 = 8 := by kernel_rfl
theorem zT163 : zT Try.prog 163 = some [.nilf] := by kernel_rfl
theorem eql1T163 {f : Nat} {c : List (Nat × Nat × Nat)}  : abin Try.prog .eql 163 (.c (.f f c)) (.c .nilf) = some (.c (.b false)) := by kernel_rfl
theorem eql2T163 : abin Try.prog .eql 163 (.c .nilf) (.c .nilf) = some (.c (.b true)) := by kernel_rfl
theorem neq1T163 {f : Nat} {c : List (Nat × Nat × Nat)}  : abin Try.prog .neq 163 (.c (.f f c)) (.c .nilf) = some (.c (.b true)) := by kernel_rfl
theorem neq2T163 : abin Try.prog .neq 163 (.c .nilf) (.c .nilf) = some (.c (.b false)) := by kernel_rfl
theorem dT164 : dT Try.prog 164 = .other := by kernel_rfl
theorem sT164 : szT Try.prog 164 = 1 := by kernel_rfl
theorem bT164 : byT Try.prog 164 = 8 := by kernel_rfl
theorem zT164 : zT Try.prog 164 = some [.nilf] := by kernel_rfl
theorem eql1T164 {f : Nat} {c : List (Nat × Nat × Nat)}  : abin Try.prog .eql 164 (.c (.f f c)) (.c .nilf) = some (.c (.b false)) := by kernel_rfl
theorem eql2T164 : abin Try.prog .eql 164 (.c .nilf) (.c .nilf) = some (.c (.b true)) := by kernel_rfl
theorem neq1T164 {f : Nat} {c : List (Nat × Nat × Nat)}  : abin Try.prog .neq 164 (.c (.f f c)) (.c .nilf) = some (.c (.b true)) := by kernel_rfl
theorem neq2T164 : abin Try.prog .neq 164 (.c .nilf) (.c .nilf) = some (.c (.b false)) := by kernel_rfl
theorem dT170 : dT Try.prog 170 = .int .u32 := by kernel_rfl
theorem sT170 : szT Try.prog 170 = 1 := by kernel_rfl
theorem bT170 : byT Try.prog 170 = 4 := by kernel_rfl
theorem zT170 : zT Try.prog 170 = some [.k .u32 (0)] := by kernel_rfl
theorem dT173 : dT Try.prog 173 = .other := by kernel_rfl
theorem sT173 : szT Try.prog 173 = 1 := by kernel_rfl
theorem bT173 : byT Try.prog 173 = 8 := by kernel_rfl
theorem zT173 : zT Try.prog 173 = some [.nilf] := by kernel_rfl
theorem eql1T173 {f : Nat} {c : List (Nat × Nat × Nat)}  : abin Try.prog .eql 173 (.c (.f f c)) (.c .nilf) = some (.c (.b false)) := by kernel_rfl
theorem eql2T173 : abin Try.prog .eql 173 (.c .nilf) (.c .nilf) = some (.c (.b true)) := by kernel_rfl
theorem neq1T173 {f : Nat} {c : List (Nat × Nat × Nat)}  : abin Try.prog .neq 173 (.c (.f f c)) (.c .nilf) = some (.c (.b true)) := by kernel_rfl
theorem neq2T173 : abin Try.prog .neq 173 (.c .nilf) (.c .nilf) = some (.c (.b false)) := by kernel_rfl
theorem dT174 : dT Try.prog 174 = .ptr 5 := by kernel_rfl
theorem sT174 : szT Try.prog 174 = 1 := by kernel_rfl
theorem bT174 : byT Try.prog 174 = 8 := by kernel_rfl
theorem zT174 : zT Try.prog 174 = some [.nilp] := by kernel_rfl
theorem eql1T174 {a b c : Nat}  : abin Try.prog .eql 174 (.c (.p a b c)) (.c .nilp) = some (.c (.b false)) := by kernel_rfl
theorem eql2T174 : abin Try.prog .eql 174 (.c .nilp) (.c .nilp) = some (.c (.b true)) := by kernel_rfl
theorem neq1T174 {a b c : Nat}  : abin Try.prog .neq 174 (.c (.p a b c)) (.c .nilp) = some (.c (.b true)) := by kernel_rfl
theorem neq2T174 : abin Try.prog .neq 174 (.c .nilp) (.c .nilp) = some (.c (.b false)) := by kernel_rfl
theorem dT177 : dT Try.prog 177 = .st [(0, 12), (1, 12), (2, 170), (3, 171), (4, 5), (5, 5), (6, 172), (7, 173), (8, 174), (9, 175), (10, 176)] := by kernel_rfl
theorem sT177 : szT Try.prog 177 = 11 := by kernel_rfl
theorem bT177 : byT Try.prog 177 = 48 := by kernel_rfl
theorem zT177 : zT Try.prog 177 = some [.u 0#64, .u 0#64, .k .u32 (0), .k .u8 (0), .k .u8 (0), .k .u8 (0), .k .u8 (0), .nilf, .nilp, .k .i32 (0), .k .i32 (0)] := by kernel_rfl
attribute [go_sem] dT1 sT1 bT1 zT1 eql1T1 eql2T1 neq1T1 neq2T1 dT2 sT2 bT2 zT2 dT3 sT3 bT3 zT3 dT4 sT4 bT4 zT4 dT5 sT5 bT5 zT5 dT7 sT7 bT7 zT7 dT9 sT9 bT9 zT9 dT12 sT12 bT12 zT12 dT13 sT13 bT13 zT13 dT21 sT21 bT21 zT21 dT22 sT22 bT22 zT22 dT23 sT23 bT23 zT23 dT24 sT24 bT24 zT24 dT25 sT25 bT25 zT25 eqT25 neT25 dT26 sT26 bT26 zT26 eql1T26 eql2T26 neq1T26 neq2T26 dT27 sT27 bT27 zT27 eql1T27 eql2T27 neq1T27 neq2T27 dT28 sT28 bT28 zT28 dT29 sT29 bT29 zT29 eqT29 neT29 dT30 sT30 bT30 zT30 eql1T30 eql2T30 neq1T30 neq2T30 dT31 sT31 bT31 zT31 dT32 sT32 bT32 zT32 eqT32 neT32 dT33 sT33 bT33 zT33 eqT33 neT33 dT34 sT34 bT34 zT34 dT35 sT35 bT35 zT35 dT36 sT36 bT36 zT36 dT37 sT37 bT37 zT37 dT38 sT38 bT38 zT38 dT39 sT39 bT39 zT39 eqT39 neT39 dT40 sT40 bT40 zT40 dT41 sT41 bT41 zT41 eqT41 neT41 dT43 sT43 bT43 zT43 eql1T43 eql2T43 neq1T43 neq2T43 dT45 sT45 bT45 zT45 eql1T45 eql2T45 neq1T45 neq2T45 dT46 sT46 bT46 zT46 eql1T46 eql2T46 neq1T46 neq2T46 dT47 sT47 bT47 zT47 eql1T47 eql2T47 neq1T47 neq2T47 dT48 sT48 bT48 zT48 eql1T48 eql2T48 neq1T48 neq2T48 dT49 sT49 bT49 zT49 eql1T49 eql2T49 neq1T49 neq2T49 dT50 sT50 bT50 zT50 eql1T50 eql2T50 neq1T50 neq2T50 dT51 sT51 bT51 zT51 dT52 sT52 bT52 zT52 dT53 sT53 bT53 zT53 eql1T53 eql2T53 neq1T53 neq2T53 dT54 sT54 bT54 zT54 dT55 sT55 bT55 zT55 eqT55 neT55 dT56 sT56 bT56 zT56 eql1T56 eql2T56 neq1T56 neq2T56 dT57 sT57 bT57 zT57 eql1T57 eql2T57 neq1T57 neq2T57 dT58 sT58 bT58 zT58 eql1T58 eql2T58 neq1T58 neq2T58 dT59 sT59 bT59 zT59 eql1T59 eql2T59 neq1T59 neq2T59 dT60 sT60 bT60 zT60 dT62 sT62 bT62 zT62 eql1T62 eql2T62 neq1T62 neq2T62 dT63 sT63 bT63 zT63 dT64 sT64 bT64 zT64 eqT64 neT64 dT66 sT66 bT66 zT66 eql1T66 eql2T66 neq1T66 neq2T66 dT67 sT67 bT67 zT67 dT68 sT68 bT68 zT68 eqT68 neT68 dT69 sT69 bT69 zT69 eqT69 neT69 dT71 sT71 bT71 zT71 eql1T71 eql2T71 neq1T71 neq2T71 dT73 sT73 bT73 zT73 eql1T73 eql2T73 neq1T73 neq2T73 dT74 sT74 bT74 zT74 eql1T74 eql2T74 neq1T74 neq2T74 dT75 sT75 bT75 zT75 eql1T75 eql2T75 neq1T75 neq2T75 dT76 sT76 bT76 zT76 eql1T76 eql2T76 neq1T76 neq2T76 dT77 sT77 bT77 zT77 eql1T77 eql2T77 neq1T77 neq2T77 dT78 sT78 bT78 zT78 eql1T78 eql2T78 neq1T78 neq2T78 dT79 sT79 bT79 zT79 eql1T79 eql2T79 neq1T79 neq2T79 dT80 sT80 bT80 zT80 eql1T80 eql2T80 neq1T80 neq2T80 dT81 sT81 bT81 zT81 eql1T81 eql2T81 neq1T81 neq2T81 dT82 sT82 bT82 zT82 eql1T82 eql2T82 neq1T82 neq2T82 dT83 sT83 bT83 zT83 eql1T83 eql2T83 neq1T83 neq2T83 dT84 sT84 bT84 zT84 eql1T84 eql2T84 neq1T84 neq2T84 dT85 sT85 bT85 zT85 eql1T85 eql2T85 neq1T85 neq2T85 dT86 sT86 bT86 zT86 eql1T86 eql2T86 neq1T86 neq2T86 dT88 sT88 bT88 zT88 eql1T88 eql2T88 neq1T88 neq2T88 dT89 sT89 bT89 zT89 dT90 sT90 bT90 zT90 dT91 sT91 bT91 zT91 dT92 sT92 bT92 zT92 eqT92 neT92 dT93 sT93 bT93 zT93 eqT93 neT93 dT94 sT94 bT94 zT94 dT95 sT95 bT95 zT95 eqT95 neT95 dT96 sT96 bT96 zT96 dT97 sT97 bT97 zT97 dT98 sT98 bT98 zT98 eql1T98 eql2T98 neq1T98 neq2T98 dT99 sT99 bT99 zT99 eql1T99 eql2T99 neq1T99 neq2T99 dT100 sT100 bT100 zT100 eql1T100 eql2T100 neq1T100 neq2T100 dT101 sT101 bT101 zT101 eql1T101 eql2T101 neq1T101 neq2T101 dT102 sT102 bT102 zT102 eql1T102 eql2T102 neq1T102 neq2T102 dT103 sT103 bT103 zT103 eql1T103 eql2T103 neq1T103 neq2T103 dT104 sT104 bT104 zT104 eqT104 neT104 dT105 sT105 bT105 zT105 eql1T105 eql2T105 neq1T105 neq2T105 dT106 sT106 bT106 zT106 dT107 sT107 bT107 zT107 eql1T107 eql2T107 neq1T107 neq2T107 dT108 sT108 bT108 zT108 eql1T108 eql2T108 neq1T108 neq2T108 dT109 sT109 bT109 zT109 eql1T109 eql2T109 neq1T109 neq2T109 dT110 sT110 bT110 zT110 eql1T110 eql2T110 neq1T110 neq2T110 dT111 sT111 bT111 zT111 eql1T111 eql2T111 neq1T111 neq2T111 dT112 sT112 bT112 zT112 eql1T112 eql2T112 neq1T112 neq2T112 mT113 kA157 kOkG157 zA145 dT114 sT114 bT114 zT114 dT115 sT115 bT115 zT115 dT116 sT116 bT116 zT116 eql1T116 eql2T116 neq1T116 neq2T116 dT117 sT117 bT117 zT117 eql1T117 eql2T117 neq1T117 neq2T117 dT118 sT118 bT118 zT118 dT119 sT119 bT119 zT119 eqT119 neT119 dT120 sT120 bT120 zT120 eql1T120 eql2T120 neq1T120 neq2T120 dT121 sT121 bT121 zT121 dT122 sT122 bT122 zT122 eqT122 neT122 dT123 sT123 bT123 zT123 eql1T123 eql2T123 neq1T123 neq2T123 dT124 sT124 bT124 zT124 eql1T124 eql2T124 neq1T124 neq2T124 dT125 sT125 bT125 zT125 eql1T125 eql2T125 neq1T125 neq2T125 dT126 sT126 bT126 zT126 eql1T126 eql2T126 neq1T126 neq2T126 dT127 sT127 bT127 zT127 eql1T127 eql2T127 neq1T127 neq2T127 dT129 sT129 bT129 zT129 eql1T129 eql2T129 neq1T129 neq2T129 dT130 sT130 bT130 zT130 eql1T130 eql2T130 neq1T130 neq2T130 dT131 sT131 bT131 zT131 eql1T131 eql2T131 neq1T131 neq2T131 dT132 sT132 bT132 zT132 eql1T132 eql2T132 neq1T132 neq2T132 dT133 sT133 bT133 zT133 eql1T133 eql2T133 neq1T133 neq2T133 dT134 sT134 bT134 zT134 eql1T134 eql2T134 neq1T134 neq2T134 dT135 sT135 bT135 zT135 eql1T135 eql2T135 neq1T135 neq2T135 dT137 sT137 bT137 zT137 eql1T137 eql2T137 neq1T137 neq2T137 dT138 sT138 bT138 zT138 eql1T138 eql2T138 neq1T138 neq2T138 dT139 sT139 bT139 zT139 eql1T139 eql2T139 neq1T139 neq2T139 dT140 sT140 bT140 zT140 eql1T140 eql2T140 neq1T140 neq2T140 dT141 sT141 bT141 zT141 eql1T141 eql2T141 neq1T141 neq2T141 dT143 sT143 bT143 zT143 eql1T143 eql2T143 neq1T143 neq2T143 dT144 sT144 bT144 zT144 dT145 sT145 bT145 zT145 dT146 sT146 bT146 zT146 eql1T146 eql2T146 neq1T146 neq2T146 dT147 sT147 bT147 zT147 eql1T147 eql2T147 neq1T147 neq2T147 dT148 sT148 bT148 zT148 eql1T148 eql2T148 neq1T148 neq2T148 dT150 sT150 bT150 zT150 eql1T150 eql2T150 neq1T150 neq2T150 dT151 sT151 bT151 zT151 eql1T151 eql2T151 neq1T151 neq2T151 dT153 sT153 bT153 zT153 eql1T153 eql2T153 neq1T153 neq2T153 dT154 sT154 bT154 zT154 eql1T154 eql2T154 neq1T154 neq2T154 dT155 sT155 bT155 zT155 eql1T155 eql2T155 neq1T155 neq2T155 dT156 sT156 bT156 zT156 dT157 sT157 bT157 zT157 eqT157 neT157 dT158 sT158 bT158 zT158 eql1T158 eql2T158 neq1T158 neq2T158 dT159 sT159 bT159 zT159 eql1T159 eql2T159 neq1T159 neq2T159 dT160 sT160 bT160 zT160 eql1T160 eql2T160 neq1T160 neq2T160 dT161 sT161 bT161 zT161 eql1T161 eql2T161 neq1T161 neq2T161 dT162 sT162 bT162 zT162 eql1T162 eql2T162 neq1T162 neq2T162 dT163 sT163 bT163 zT163 eql1T163 eql2T163 neq1T163 neq2T163 dT164 sT164 bT164 zT164 eql1T164 eql2T164 neq1T164 neq2T164 dT170 sT170 bT170 zT170 dT173 sT173 bT173 zT173 eql1T173 eql2T173 neq1T173 neq2T173 dT174 sT174 bT174 zT174 eql1T174 eql2T174 neq1T174 neq2T174 dT177 sT177 bT177 zT177
end Go.Proofs.Ytanblagbkhpolaa
