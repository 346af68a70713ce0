/- The types of this translation, as the abstract machine reads them: closed facts. -/
import Derived.Test.YtflcjnekmjdckaaGreatProg
import Derived.Test.YtflcjnekmjdckaaGreatAw
namespace Go.Proofs.YtflcjnekmjdckaaGreat
open Go.Am
set_option maxRecDepth 100000
def zRow (n : Nat) (s : Sc) : List Sc := List.replicate n s
theorem zRow_len {n : Nat} {s : Sc} : (zRow n s).length = n := List.length_replicate
attribute [go_sem] zRow_len
theorem hmix : Tryz.prog.follows .mixedOrders = true := by kernel_rfl
theorem dT1 : dT Tryz.prog 1 = .other := by kernel_rfl
theorem sT1 : szT Tryz.prog 1 = 1 := by kernel_rfl
theorem bT1 : byT Tryz.prog 1 = 8 := by kernel_rfl
theorem zT1 : zT Tryz.prog 1 = some [.nilf] := by kernel_rfl
theorem eql1T1 {f : Nat} {c : List (Nat × Nat × Nat)}  : abin Tryz.prog .eql 1 (.c (.f f c)) (.c .nilf) = some (.c (.b false)) := by kernel_rfl
theorem eql2T1 : abin Tryz.prog .eql 1 (.c .nilf) (.c .nilf) = some (.c (.b true)) := by kernel_rfl
theorem neq1T1 {f : Nat} {c : List (Nat × Nat × Nat)}  : abin Tryz.prog .neq 1 (.c (.f f c)) (.c .nilf) = some (.c (.b true)) := by kernel_rfl
theorem neq2T1 : abin Tryz.prog .neq 1 (.c .nilf) (.c .nilf) = some (.c (.b false)) := by kernel_rfl
theorem dT2 : dT Tryz.prog 2 = .int .i64 := by kernel_rfl
theorem sT2 : szT Tryz.prog 2 = 1 := by kernel_rfl
theorem bT2 : byT Tryz.prog 2 = 8 := by kernel_rfl
theorem zT2 : zT Tryz.prog 2 = some [.i 0] := by kernel_rfl
theorem dT3 : dT Tryz.prog 3 = .int .i64 := by kernel_rfl
theorem sT3 : szT Tryz.prog 3 = 1 := by kernel_rfl
theorem bT3 : byT Tryz.prog 3 = 8 := by kernel_rfl
theorem zT3 : zT Tryz.prog 3 = some [.i 0] := by kernel_rfl
theorem dT4 : dT Tryz.prog 4 = .bool := by kernel_rfl
theorem sT4 : szT Tryz.prog 4 = 1 := by kernel_rfl
theorem bT4 : byT Tryz.prog 4 = 1 := by kernel_rfl
theorem zT4 : zT Tryz.prog 4 = some [.b false] := by kernel_rfl
theorem dT5 : dT Tryz.prog 5 = .int .u8 := by kernel_rfl
theorem sT5 : szT Tryz.prog 5 = 1 := by kernel_rfl
theorem bT5 : byT Tryz.prog 5 = 1 := by kernel_rfl
theorem zT5 : zT Tryz.prog 5 = some [.k .u8 (0)] := by kernel_rfl
theorem dT7 : dT Tryz.prog 7 = .st [(0, 2), (1, 3), (2, 4), (3, 6)] := by kernel_rfl
theorem sT7 : szT Tryz.prog 7 = 4 := by kernel_rfl
theorem bT7 : byT Tryz.prog 7 = 24 := by kernel_rfl
theorem zT7 : zT Tryz.prog 7 = some [.i 0, .i 0, .b false, .k .u8 (0)] := by kernel_rfl
theorem dT9 : dT Tryz.prog 9 = .str := by kernel_rfl
theorem sT9 : szT Tryz.prog 9 = 1 := by kernel_rfl
theorem bT9 : byT Tryz.prog 9 = 16 := by kernel_rfl
theorem zT9 : zT Tryz.prog 9 = some [.s ByteArray.empty] := by kernel_rfl
theorem dT12 : dT Tryz.prog 12 = .int .u64 := by kernel_rfl
theorem sT12 : szT Tryz.prog 12 = 1 := by kernel_rfl
theorem bT12 : byT Tryz.prog 12 = 8 := by kernel_rfl
theorem zT12 : zT Tryz.prog 12 = some [.u 0#64] := by kernel_rfl
theorem dT13 : dT Tryz.prog 13 = .st [(0, 9), (1, 12)] := by kernel_rfl
theorem sT13 : szT Tryz.prog 13 = 2 := by kernel_rfl
theorem bT13 : byT Tryz.prog 13 = 24 := by kernel_rfl
theorem zT13 : zT Tryz.prog 13 = some [.s ByteArray.empty, .u 0#64] := by kernel_rfl
theorem dT21 : dT Tryz.prog 21 = .int .i32 := by kernel_rfl
theorem sT21 : szT Tryz.prog 21 = 1 := by kernel_rfl
theorem bT21 : byT Tryz.prog 21 = 4 := by kernel_rfl
theorem zT21 : zT Tryz.prog 21 = some [.k .i32 (0)] := by kernel_rfl
theorem dT22 : dT Tryz.prog 22 = .st [(0, 3), (1, 3), (2, 3), (3, 3)] := by kernel_rfl
theorem sT22 : szT Tryz.prog 22 = 4 := by kernel_rfl
theorem bT22 : byT Tryz.prog 22 = 32 := by kernel_rfl
theorem zT22 : zT Tryz.prog 22 = some [.i 0, .i 0, .i 0, .i 0] := by kernel_rfl
theorem dT23 : dT Tryz.prog 23 = .st [(0, 3), (1, 3), (2, 3), (3, 3)] := by kernel_rfl
theorem sT23 : szT Tryz.prog 23 = 4 := by kernel_rfl
theorem bT23 : byT Tryz.prog 23 = 32 := by kernel_rfl
theorem zT23 : zT Tryz.prog 23 = some [.i 0, .i 0, .i 0, .i 0] := by kernel_rfl
theorem gT23 : tagsT Tryz.prog 12 23 = some [.n, .n, .n, .n] := by kernel_rfl
theorem eqT23 {a b : List Sc} : abin Tryz.prog .eql 23 (.g a) (.g b) = (csEq [.n, .n, .n, .n] a b).bind (eqU .eql) := ab_g_eql _ (by simp only [dT23, D.agg]) gT23
theorem neT23 {a b : List Sc} : abin Tryz.prog .neq 23 (.g a) (.g b) = (csEq [.n, .n, .n, .n] a b).bind (eqU .neq) := ab_g_neq _ (by simp only [dT23, D.agg]) gT23
theorem dT24 : dT Tryz.prog 24 = .int .i64 := by kernel_rfl
theorem sT24 : szT Tryz.prog 24 = 1 := by kernel_rfl
theorem bT24 : byT Tryz.prog 24 = 8 := by kernel_rfl
theorem zT24 : zT Tryz.prog 24 = some [.i 0] := by kernel_rfl
theorem dT25 : dT Tryz.prog 25 = .int .u64 := by kernel_rfl
theorem sT25 : szT Tryz.prog 25 = 1 := by kernel_rfl
theorem bT25 : byT Tryz.prog 25 = 8 := by kernel_rfl
theorem zT25 : zT Tryz.prog 25 = some [.u 0#64] := by kernel_rfl
theorem dT26 : dT Tryz.prog 26 = .int .i64 := by kernel_rfl
theorem sT26 : szT Tryz.prog 26 = 1 := by kernel_rfl
theorem bT26 : byT Tryz.prog 26 = 8 := by kernel_rfl
theorem zT26 : zT Tryz.prog 26 = some [.i 0] := by kernel_rfl
theorem dT27 : dT Tryz.prog 27 = .st [(0, 4), (1, 4), (2, 4), (3, 25), (4, 3)] := by kernel_rfl
theorem sT27 : szT Tryz.prog 27 = 5 := by kernel_rfl
theorem bT27 : byT Tryz.prog 27 = 24 := by kernel_rfl
theorem zT27 : zT Tryz.prog 27 = some [.b false, .b false, .b false, .u 0#64, .i 0] := by kernel_rfl
theorem dT28 : dT Tryz.prog 28 = .st [(0, 4), (1, 4), (2, 4), (3, 25), (4, 3)] := by kernel_rfl
theorem sT28 : szT Tryz.prog 28 = 5 := by kernel_rfl
theorem bT28 : byT Tryz.prog 28 = 24 := by kernel_rfl
theorem zT28 : zT Tryz.prog 28 = some [.b false, .b false, .b false, .u 0#64, .i 0] := by kernel_rfl
theorem gT28 : tagsT Tryz.prog 12 28 = some [.q, .q, .q, .n, .n] := by kernel_rfl
theorem eqT28 {a b : List Sc} : abin Tryz.prog .eql 28 (.g a) (.g b) = (csEq [.q, .q, .q, .n, .n] a b).bind (eqU .eql) := ab_g_eql _ (by simp only [dT28, D.agg]) gT28
theorem neT28 {a b : List Sc} : abin Tryz.prog .neq 28 (.g a) (.g b) = (csEq [.q, .q, .q, .n, .n] a b).bind (eqU .neq) := ab_g_neq _ (by simp only [dT28, D.agg]) gT28
theorem dT29 : dT Tryz.prog 29 = .st [(0, 3), (1, 25), (2, 3), (3, 25)] := by kernel_rfl
theorem sT29 : szT Tryz.prog 29 = 4 := by kernel_rfl
theorem bT29 : byT Tryz.prog 29 = 32 := by kernel_rfl
theorem zT29 : zT Tryz.prog 29 = some [.i 0, .u 0#64, .i 0, .u 0#64] := by kernel_rfl
theorem dT30 : dT Tryz.prog 30 = .st [(0, 3), (1, 25), (2, 3), (3, 25)] := by kernel_rfl
theorem sT30 : szT Tryz.prog 30 = 4 := by kernel_rfl
theorem bT30 : byT Tryz.prog 30 = 32 := by kernel_rfl
theorem zT30 : zT Tryz.prog 30 = some [.i 0, .u 0#64, .i 0, .u 0#64] := by kernel_rfl
theorem gT30 : tagsT Tryz.prog 12 30 = some [.n, .n, .n, .n] := by kernel_rfl
theorem eqT30 {a b : List Sc} : abin Tryz.prog .eql 30 (.g a) (.g b) = (csEq [.n, .n, .n, .n] a b).bind (eqU .eql) := ab_g_eql _ (by simp only [dT30, D.agg]) gT30
theorem neT30 {a b : List Sc} : abin Tryz.prog .neq 30 (.g a) (.g b) = (csEq [.n, .n, .n, .n] a b).bind (eqU .neq) := ab_g_neq _ (by simp only [dT30, D.agg]) gT30
theorem dT31 : dT Tryz.prog 31 = .st [(0, 24), (1, 25), (2, 25), (3, 3), (4, 3), (5, 26), (6, 25), (7, 25), (8, 4), (9, 3), (10, 28), (15, 30)] := by kernel_rfl
theorem sT31 : szT Tryz.prog 31 = 19 := by kernel_rfl
theorem bT31 : byT Tryz.prog 31 = 136 := by kernel_rfl
theorem zT31 : zT Tryz.prog 31 = some [.i 0, .u 0#64, .u 0#64, .i 0, .i 0, .i 0, .u 0#64, .u 0#64, .b false, .i 0, .b false, .b false, .b false, .u 0#64, .i 0, .i 0, .u 0#64, .i 0, .u 0#64] := by kernel_rfl
theorem dT32 : dT Tryz.prog 32 = .st [(0, 24), (1, 25), (2, 25), (3, 3), (4, 3), (5, 26), (6, 25), (7, 25), (8, 4), (9, 3), (10, 28), (15, 30)] := by kernel_rfl
theorem sT32 : szT Tryz.prog 32 = 19 := by kernel_rfl
theorem bT32 : byT Tryz.prog 32 = 136 := by kernel_rfl
theorem zT32 : zT Tryz.prog 32 = some [.i 0, .u 0#64, .u 0#64, .i 0, .i 0, .i 0, .u 0#64, .u 0#64, .b false, .i 0, .b false, .b false, .b false, .u 0#64, .i 0, .i 0, .u 0#64, .i 0, .u 0#64] := by kernel_rfl
theorem gT32 : tagsT Tryz.prog 12 32 = some [.n, .n, .n, .n, .n, .n, .n, .n, .q, .n, .q, .q, .q, .n, .n, .n, .n, .n, .n] := by kernel_rfl
theorem eqT32 {a b : List Sc} : abin Tryz.prog .eql 32 (.g a) (.g b) = (csEq [.n, .n, .n, .n, .n, .n, .n, .n, .q, .n, .q, .q, .q, .n, .n, .n, .n, .n, .n] a b).bind (eqU .eql) := ab_g_eql _ (by simp only [dT32, D.agg]) gT32
theorem neT32 {a b : List Sc} : abin Tryz.prog .neq 32 (.g a) (.g b) = (csEq [.n, .n, .n, .n, .n, .n, .n, .n, .q, .n, .q, .q, .q, .n, .n, .n, .n, .n, .n] a b).bind (eqU .neq) := ab_g_neq _ (by simp only [dT32, D.agg]) gT32
theorem dT33 : dT Tryz.prog 33 = .arr 8 28 := by kernel_rfl
theorem sT33 : szT Tryz.prog 33 = 40 := by kernel_rfl
theorem bT33 : byT Tryz.prog 33 = 192 := by kernel_rfl
theorem zT33 : zT Tryz.prog 33 = some [.b false, .b false, .b false, .u 0#64, .i 0, .b false, .b false, .b false, .u 0#64, .i 0, .b false, .b false, .b false, .u 0#64, .i 0, .b false, .b false, .b false, .u 0#64, .i 0, .b false, .b false, .b false, .u 0#64, .i 0, .b false, .b false, .b false, .u 0#64, .i 0, .b false, .b false, .b false, .u 0#64, .i 0, .b false, .b false, .b false, .u 0#64, .i 0] := by kernel_rfl
theorem gT33 : tagsT Tryz.prog 12 33 = some [.q, .q, .q, .n, .n, .q, .q, .q, .n, .n, .q, .q, .q, .n, .n, .q, .q, .q, .n, .n, .q, .q, .q, .n, .n, .q, .q, .q, .n, .n, .q, .q, .q, .n, .n, .q, .q, .q, .n, .n] := by kernel_rfl
theorem eqT33 {a b : List Sc} : abin Tryz.prog .eql 33 (.g a) (.g b) = (csEq [.q, .q, .q, .n, .n, .q, .q, .q, .n, .n, .q, .q, .q, .n, .n, .q, .q, .q, .n, .n, .q, .q, .q, .n, .n, .q, .q, .q, .n, .n, .q, .q, .q, .n, .n, .q, .q, .q, .n, .n] a b).bind (eqU .eql) := ab_g_eql _ (by simp only [dT33, D.agg]) gT33
theorem neT33 {a b : List Sc} : abin Tryz.prog .neq 33 (.g a) (.g b) = (csEq [.q, .q, .q, .n, .n, .q, .q, .q, .n, .n, .q, .q, .q, .n, .n, .q, .q, .q, .n, .n, .q, .q, .q, .n, .n, .q, .q, .q, .n, .n, .q, .q, .q, .n, .n, .q, .q, .q, .n, .n] a b).bind (eqU .neq) := ab_g_neq _ (by simp only [dT33, D.agg]) gT33
theorem dT34 : dT Tryz.prog 34 = .st [(0, 25), (1, 4), (2, 33)] := by kernel_rfl
theorem sT34 : szT Tryz.prog 34 = 42 := by kernel_rfl
theorem bT34 : byT Tryz.prog 34 = 208 := by kernel_rfl
theorem zT34 : zT Tryz.prog 34 = some [.u 0#64, .b false, .b false, .b false, .b false, .u 0#64, .i 0, .b false, .b false, .b false, .u 0#64, .i 0, .b false, .b false, .b false, .u 0#64, .i 0, .b false, .b false, .b false, .u 0#64, .i 0, .b false, .b false, .b false, .u 0#64, .i 0, .b false, .b false, .b false, .u 0#64, .i 0, .b false, .b false, .b false, .u 0#64, .i 0, .b false, .b false, .b false, .u 0#64, .i 0] := by kernel_rfl
theorem dT35 : dT Tryz.prog 35 = .st [(0, 25), (1, 4), (2, 33)] := by kernel_rfl
theorem sT35 : szT Tryz.prog 35 = 42 := by kernel_rfl
theorem bT35 : byT Tryz.prog 35 = 208 := by kernel_rfl
theorem zT35 : zT Tryz.prog 35 = some [.u 0#64, .b false, .b false, .b false, .b false, .u 0#64, .i 0, .b false, .b false, .b false, .u 0#64, .i 0, .b false, .b false, .b false, .u 0#64, .i 0, .b false, .b false, .b false, .u 0#64, .i 0, .b false, .b false, .b false, .u 0#64, .i 0, .b false, .b false, .b false, .u 0#64, .i 0, .b false, .b false, .b false, .u 0#64, .i 0, .b false, .b false, .b false, .u 0#64, .i 0] := by kernel_rfl
theorem dT36 : dT Tryz.prog 36 = .ptr 80 := by kernel_rfl
theorem sT36 : szT Tryz.prog 36 = 1 := by kernel_rfl
theorem bT36 : byT Tryz.prog 36 = 8 := by kernel_rfl
theorem zT36 : zT Tryz.prog 36 = some [.nilp] := by kernel_rfl
theorem eql1T36 {a b c : Nat}  : abin Tryz.prog .eql 36 (.c (.p a b c)) (.c .nilp) = some (.c (.b false)) := by kernel_rfl
theorem eql2T36 : abin Tryz.prog .eql 36 (.c .nilp) (.c .nilp) = some (.c (.b true)) := by kernel_rfl
theorem neq1T36 {a b c : Nat}  : abin Tryz.prog .neq 36 (.c (.p a b c)) (.c .nilp) = some (.c (.b true)) := by kernel_rfl
theorem neq2T36 : abin Tryz.prog .neq 36 (.c .nilp) (.c .nilp) = some (.c (.b false)) := by kernel_rfl
theorem dT38 : dT Tryz.prog 38 = .other := by kernel_rfl
theorem sT38 : szT Tryz.prog 38 = 1 := by kernel_rfl
theorem bT38 : byT Tryz.prog 38 = 8 := by kernel_rfl
theorem zT38 : zT Tryz.prog 38 = some [.nilf] := by kernel_rfl
theorem eql1T38 {f : Nat} {c : List (Nat × Nat × Nat)}  : abin Tryz.prog .eql 38 (.c (.f f c)) (.c .nilf) = some (.c (.b false)) := by kernel_rfl
theorem eql2T38 : abin Tryz.prog .eql 38 (.c .nilf) (.c .nilf) = some (.c (.b true)) := by kernel_rfl
theorem neq1T38 {f : Nat} {c : List (Nat × Nat × Nat)}  : abin Tryz.prog .neq 38 (.c (.f f c)) (.c .nilf) = some (.c (.b true)) := by kernel_rfl
theorem neq2T38 : abin Tryz.prog .neq 38 (.c .nilf) (.c .nilf) = some (.c (.b false)) := by kernel_rfl
theorem dT39 : dT Tryz.prog 39 = .other := by kernel_rfl
theorem sT39 : szT Tryz.prog 39 = 1 := by kernel_rfl
theorem bT39 : byT Tryz.prog 39 = 8 := by kernel_rfl
theorem zT39 : zT Tryz.prog 39 = some [.nilf] := by kernel_rfl
theorem eql1T39 {f : Nat} {c : List (Nat × Nat × Nat)}  : abin Tryz.prog .eql 39 (.c (.f f c)) (.c .nilf) = some (.c (.b false)) := by kernel_rfl
theorem eql2T39 : abin Tryz.prog .eql 39 (.c .nilf) (.c .nilf) = some (.c (.b true)) := by kernel_rfl
theorem neq1T39 {f : Nat} {c : List (Nat × Nat × Nat)}  : abin Tryz.prog .neq 39 (.c (.f f c)) (.c .nilf) = some (.c (.b true)) := by kernel_rfl
theorem neq2T39 : abin Tryz.prog .neq 39 (.c .nilf) (.c .nilf) = some (.c (.b false)) := by kernel_rfl
theorem dT40 : dT Tryz.prog 40 = .sl 3 := by kernel_rfl
theorem sT40 : szT Tryz.prog 40 = 1 := by kernel_rfl
theorem bT40 : byT Tryz.prog 40 = 24 := by kernel_rfl
theorem zT40 : zT Tryz.prog 40 = some [.nils] := by kernel_rfl
theorem eql1T40 {a b c n : Nat}  : abin Tryz.prog .eql 40 (.c (.sl a b c n)) (.c .nils) = if n = 0 then some (.c .qq) else some (.c (.b false)) := by kernel_rfl
theorem eql2T40 : abin Tryz.prog .eql 40 (.c .nils) (.c .nils) = some (.c (.b true)) := by kernel_rfl
theorem neq1T40 {a b c n : Nat}  : abin Tryz.prog .neq 40 (.c (.sl a b c n)) (.c .nils) = if n = 0 then some (.c .qq) else some (.c (.b true)) := by kernel_rfl
theorem neq2T40 : abin Tryz.prog .neq 40 (.c .nils) (.c .nils) = some (.c (.b false)) := by kernel_rfl
theorem dT41 : dT Tryz.prog 41 = .other := by kernel_rfl
theorem sT41 : szT Tryz.prog 41 = 1 := by kernel_rfl
theorem bT41 : byT Tryz.prog 41 = 8 := by kernel_rfl
theorem zT41 : zT Tryz.prog 41 = some [.nilf] := by kernel_rfl
theorem eql1T41 {f : Nat} {c : List (Nat × Nat × Nat)}  : abin Tryz.prog .eql 41 (.c (.f f c)) (.c .nilf) = some (.c (.b false)) := by kernel_rfl
theorem eql2T41 : abin Tryz.prog .eql 41 (.c .nilf) (.c .nilf) = some (.c (.b true)) := by kernel_rfl
theorem neq1T41 {f : Nat} {c : List (Nat × Nat × Nat)}  : abin Tryz.prog .neq 41 (.c (.f f c)) (.c .nilf) = some (.c (.b true)) := by kernel_rfl
theorem neq2T41 : abin Tryz.prog .neq 41 (.c .nilf) (.c .nilf) = some (.c (.b false)) := by kernel_rfl
theorem dT42 : dT Tryz.prog 42 = .ptr 107 := by kernel_rfl
theorem sT42 : szT Tryz.prog 42 = 1 := by kernel_rfl
theorem bT42 : byT Tryz.prog 42 = 8 := by kernel_rfl
theorem zT42 : zT Tryz.prog 42 = some [.nilp] := by kernel_rfl
theorem eql1T42 {a b c : Nat}  : abin Tryz.prog .eql 42 (.c (.p a b c)) (.c .nilp) = some (.c (.b false)) := by kernel_rfl
theorem eql2T42 : abin Tryz.prog .eql 42 (.c .nilp) (.c .nilp) = some (.c (.b true)) := by kernel_rfl
theorem neq1T42 {a b c : Nat}  : abin Tryz.prog .neq 42 (.c (.p a b c)) (.c .nilp) = some (.c (.b true)) := by kernel_rfl
theorem neq2T42 : abin Tryz.prog .neq 42 (.c .nilp) (.c .nilp) = some (.c (.b false)) := by kernel_rfl
theorem dT43 : dT Tryz.prog 43 = .other := by kernel_rfl
theorem sT43 : szT Tryz.prog 43 = 1 := by kernel_rfl
theorem bT43 : byT Tryz.prog 43 = 8 := by kernel_rfl
theorem zT43 : zT Tryz.prog 43 = some [.nilf] := by kernel_rfl
theorem eql1T43 {f : Nat} {c : List (Nat × Nat × Nat)}  : abin Tryz.prog .eql 43 (.c (.f f c)) (.c .nilf) = some (.c (.b false)) := by kernel_rfl
theorem eql2T43 : abin Tryz.prog .eql 43 (.c .nilf) (.c .nilf) = some (.c (.b true)) := by kernel_rfl
theorem neq1T43 {f : Nat} {c : List (Nat × Nat × Nat)}  : abin Tryz.prog .neq 43 (.c (.f f c)) (.c .nilf) = some (.c (.b true)) := by kernel_rfl
theorem neq2T43 : abin Tryz.prog .neq 43 (.c .nilf) (.c .nilf) = some (.c (.b false)) := by kernel_rfl
theorem dT44 : dT Tryz.prog 44 = .other := by kernel_rfl
theorem sT44 : szT Tryz.prog 44 = 1 := by kernel_rfl
theorem bT44 : byT Tryz.prog 44 = 8 := by kernel_rfl
theorem zT44 : zT Tryz.prog 44 = some [.nilf] := by kernel_rfl
theorem eql1T44 {f : Nat} {c : List (Nat × Nat × Nat)}  : abin Tryz.prog .eql 44 (.c (.f f c)) (.c .nilf) = some (.c (.b false)) := by kernel_rfl
theorem eql2T44 : abin Tryz.prog .eql 44 (.c .nilf) (.c .nilf) = some (.c (.b true)) := by kernel_rfl
theorem neq1T44 {f : Nat} {c : List (Nat × Nat × Nat)}  : abin Tryz.prog .neq 44 (.c (.f f c)) (.c .nilf) = some (.c (.b true)) := by kernel_rfl
theorem neq2T44 : abin Tryz.prog .neq 44 (.c .nilf) (.c .nilf) = some (.c (.b false)) := by kernel_rfl
theorem dT45 : dT Tryz.prog 45 = .other := by kernel_rfl
theorem sT45 : szT Tryz.prog 45 = 1 := by kernel_rfl
theorem bT45 : byT Tryz.prog 45 = 8 := by kernel_rfl
theorem zT45 : zT Tryz.prog 45 = some [.nilf] := by kernel_rfl
theorem eql1T45 {f : Nat} {c : List (Nat × Nat × Nat)}  : abin Tryz.prog .eql 45 (.c (.f f c)) (.c .nilf) = some (.c (.b false)) := by kernel_rfl
theorem eql2T45 : abin Tryz.prog .eql 45 (.c .nilf) (.c .nilf) = some (.c (.b true)) := by kernel_rfl
theorem neq1T45 {f : Nat} {c : List (Nat × Nat × Nat)}  : abin Tryz.prog .neq 45 (.c (.f f c)) (.c .nilf) = some (.c (.b true)) := by kernel_rfl
theorem neq2T45 : abin Tryz.prog .neq 45 (.c .nilf) (.c .nilf) = some (.c (.b false)) := by kernel_rfl
theorem dT46 : dT Tryz.prog 46 = .int .i64 := by kernel_rfl
theorem sT46 : szT Tryz.prog 46 = 1 := by kernel_rfl
theorem bT46 : byT Tryz.prog 46 = 8 := by kernel_rfl
theorem zT46 : zT Tryz.prog 46 = some [.i 0] := by kernel_rfl
theorem dT48 : dT Tryz.prog 48 = .other := by kernel_rfl
theorem sT48 : szT Tryz.prog 48 = 1 := by kernel_rfl
theorem bT48 : byT Tryz.prog 48 = 8 := by kernel_rfl
theorem zT48 : zT Tryz.prog 48 = some [.nilf] := by kernel_rfl
theorem eql1T48 {f : Nat} {c : List (Nat × Nat × Nat)}  : abin Tryz.prog .eql 48 (.c (.f f c)) (.c .nilf) = some (.c (.b false)) := by kernel_rfl
theorem eql2T48 : abin Tryz.prog .eql 48 (.c .nilf) (.c .nilf) = some (.c (.b true)) := by kernel_rfl
theorem neq1T48 {f : Nat} {c : List (Nat × Nat × Nat)}  : abin Tryz.prog .neq 48 (.c (.f f c)) (.c .nilf) = some (.c (.b true)) := by kernel_rfl
theorem neq2T48 : abin Tryz.prog .neq 48 (.c .nilf) (.c .nilf) = some (.c (.b false)) := by kernel_rfl
theorem dT49 : dT Tryz.prog 49 = .other := by kernel_rfl
theorem sT49 : szT Tryz.prog 49 = 1 := by kernel_rfl
theorem bT49 : byT Tryz.prog 49 = 8 := by kernel_rfl
theorem zT49 : zT Tryz.prog 49 = some [.nilf] := by kernel_rfl
theorem eql1T49 {f : Nat} {c : List (Nat × Nat × Nat)}  : abin Tryz.prog .eql 49 (.c (.f f c)) (.c .nilf) = some (.c (.b false)) := by kernel_rfl
theorem eql2T49 : abin Tryz.prog .eql 49 (.c .nilf) (.c .nilf) = some (.c (.b true)) := by kernel_rfl
theorem neq1T49 {f : Nat} {c : List (Nat × Nat × Nat)}  : abin Tryz.prog .neq 49 (.c (.f f c)) (.c .nilf) = some (.c (.b true)) := by kernel_rfl
theorem neq2T49 : abin Tryz.prog .neq 49 (.c .nilf) (.c .nilf) = some (.c (.b false)) := by kernel_rfl
theorem dT50 : dT Tryz.prog 50 = .other := by kernel_rfl
theorem sT50 : szT Tryz.prog 50 = 1 := by kernel_rfl
theorem bT50 : byT Tryz.prog 50 = 8 := by kernel_rfl
theorem zT50 : zT Tryz.prog 50 = some [.nilf] := by kernel_rfl
theorem eql1T50 {f : Nat} {c : List (Nat × Nat × Nat)}  : abin Tryz.prog .eql 50 (.c (.f f c)) (.c .nilf) = some (.c (.b false)) := by kernel_rfl
theorem eql2T50 : abin Tryz.prog .eql 50 (.c .nilf) (.c .nilf) = some (.c (.b true)) := by kernel_rfl
theorem neq1T50 {f : Nat} {c : List (Nat × Nat × Nat)}  : abin Tryz.prog .neq 50 (.c (.f f c)) (.c .nilf) = some (.c (.b true)) := by kernel_rfl
theorem neq2T50 : abin Tryz.prog .neq 50 (.c .nilf) (.c .nilf) = some (.c (.b false)) := by kernel_rfl
theorem dT51 : dT Tryz.prog 51 = .st [(0, 25), (1, 25), (2, 3), (3, 3)] := by kernel_rfl
theorem sT51 : szT Tryz.prog 51 = 4 := by kernel_rfl
theorem bT51 : byT Tryz.prog 51 = 32 := by kernel_rfl
theorem zT51 : zT Tryz.prog 51 = some [.u 0#64, .u 0#64, .i 0, .i 0] := by kernel_rfl
theorem dT52 : dT Tryz.prog 52 = .st [(0, 25), (1, 25), (2, 3), (3, 3)] := by kernel_rfl
theorem sT52 : szT Tryz.prog 52 = 4 := by kernel_rfl
theorem bT52 : byT Tryz.prog 52 = 32 := by kernel_rfl
theorem zT52 : zT Tryz.prog 52 = some [.u 0#64, .u 0#64, .i 0, .i 0] := by kernel_rfl
theorem gT52 : tagsT Tryz.prog 12 52 = some [.n, .n, .n, .n] := by kernel_rfl
theorem eqT52 {a b : List Sc} : abin Tryz.prog .eql 52 (.g a) (.g b) = (csEq [.n, .n, .n, .n] a b).bind (eqU .eql) := ab_g_eql _ (by simp only [dT52, D.agg]) gT52
theorem neT52 {a b : List Sc} : abin Tryz.prog .neq 52 (.g a) (.g b) = (csEq [.n, .n, .n, .n] a b).bind (eqU .neq) := ab_g_neq _ (by simp only [dT52, D.agg]) gT52
theorem dT53 : dT Tryz.prog 53 = .other := by kernel_rfl
theorem sT53 : szT Tryz.prog 53 = 1 := by kernel_rfl
theorem bT53 : byT Tryz.prog 53 = 8 := by kernel_rfl
theorem zT53 : zT Tryz.prog 53 = some [.nilf] := by kernel_rfl
theorem eql1T53 {f : Nat} {c : List (Nat × Nat × Nat)}  : abin Tryz.prog .eql 53 (.c (.f f c)) (.c .nilf) = some (.c (.b false)) := by kernel_rfl
theorem eql2T53 : abin Tryz.prog .eql 53 (.c .nilf) (.c .nilf) = some (.c (.b true)) := by kernel_rfl
theorem neq1T53 {f : Nat} {c : List (Nat × Nat × Nat)}  : abin Tryz.prog .neq 53 (.c (.f f c)) (.c .nilf) = some (.c (.b true)) := by kernel_rfl
theorem neq2T53 : abin Tryz.prog .neq 53 (.c .nilf) (.c .nilf) = some (.c (.b false)) := by kernel_rfl
theorem dT54 : dT Tryz.prog 54 = .st [(0, 25), (1, 25), (2, 3), (3, 3)] := by kernel_rfl
theorem sT54 : szT Tryz.prog 54 = 4 := by kernel_rfl
theorem bT54 : byT Tryz.prog 54 = 32 := by kernel_rfl
theorem zT54 : zT Tryz.prog 54 = some [.u 0#64, .u 0#64, .i 0, .i 0] := by kernel_rfl
theorem gT54 : tagsT Tryz.prog 12 54 = some [.n, .n, .n, .n] := by kernel_rfl
theorem eqT54 {a b : List Sc} : abin Tryz.prog .eql 54 (.g a) (.g b) = (csEq [.n, .n, .n, .n] a b).bind (eqU .eql) := ab_g_eql _ (by simp only [dT54, D.agg]) gT54
theorem neT54 {a b : List Sc} : abin Tryz.prog .neq 54 (.g a) (.g b) = (csEq [.n, .n, .n, .n] a b).bind (eqU .neq) := ab_g_neq _ (by simp only [dT54, D.agg]) gT54
theorem dT55 : dT Tryz.prog 55 = .other := by kernel_rfl
theorem sT55 : szT Tryz.prog 55 = 1 := by kernel_rfl
theorem bT55 : byT Tryz.prog 55 = 8 := by kernel_rfl
theorem zT55 : zT Tryz.prog 55 = some [.nilf] := by kernel_rfl
theorem eql1T55 {f : Nat} {c : List (Nat × Nat × Nat)}  : abin Tryz.prog .eql 55 (.c (.f f c)) (.c .nilf) = some (.c (.b false)) := by kernel_rfl
theorem eql2T55 : abin Tryz.prog .eql 55 (.c .nilf) (.c .nilf) = some (.c (.b true)) := by kernel_rfl
theorem neq1T55 {f : Nat} {c : List (Nat × Nat × Nat)}  : abin Tryz.prog .neq 55 (.c (.f f c)) (.c .nilf) = some (.c (.b true)) := by kernel_rfl
theorem neq2T55 : abin Tryz.prog .neq 55 (.c .nilf) (.c .nilf) = some (.c (.b false)) := by kernel_rfl
theorem dT56 : dT Tryz.prog 56 = .other := by kernel_rfl
theorem sT56 : szT Tryz.prog 56 = 1 := by kernel_rfl
theorem bT56 : byT Tryz.prog 56 = 8 := by kernel_rfl
theorem zT56 : zT Tryz.prog 56 = some [.nilf] := by kernel_rfl
theorem eql1T56 {f : Nat} {c : List (Nat × Nat × Nat)}  : abin Tryz.prog .eql 56 (.c (.f f c)) (.c .nilf) = some (.c (.b false)) := by kernel_rfl
theorem eql2T56 : abin Tryz.prog .eql 56 (.c .nilf) (.c .nilf) = some (.c (.b true)) := by kernel_rfl
theorem neq1T56 {f : Nat} {c : List (Nat × Nat × Nat)}  : abin Tryz.prog .neq 56 (.c (.f f c)) (.c .nilf) = some (.c (.b true)) := by kernel_rfl
theorem neq2T56 : abin Tryz.prog .neq 56 (.c .nilf) (.c .nilf) = some (.c (.b false)) := by kernel_rfl
theorem dT57 : dT Tryz.prog 57 = .sl 5 := by kernel_rfl
theorem sT57 : szT Tryz.prog 57 = 1 := by kernel_rfl
theorem bT57 : byT Tryz.prog 57 = 24 := by kernel_rfl
theorem zT57 : zT Tryz.prog 57 = some [.nils] := by kernel_rfl
theorem eql1T57 {a b c n : Nat}  : abin Tryz.prog .eql 57 (.c (.sl a b c n)) (.c .nils) = if n = 0 then some (.c .qq) else some (.c (.b false)) := by kernel_rfl
theorem eql2T57 : abin Tryz.prog .eql 57 (.c .nils) (.c .nils) = some (.c (.b true)) := by kernel_rfl
theorem neq1T57 {a b c n : Nat}  : abin Tryz.prog .neq 57 (.c (.sl a b c n)) (.c .nils) = if n = 0 then some (.c .qq) else some (.c (.b true)) := by kernel_rfl
theorem neq2T57 : abin Tryz.prog .neq 57 (.c .nils) (.c .nils) = some (.c (.b false)) := by kernel_rfl
theorem dT58 : dT Tryz.prog 58 = .st [(0, 57)] := by kernel_rfl
theorem sT58 : szT Tryz.prog 58 = 1 := by kernel_rfl
theorem bT58 : byT Tryz.prog 58 = 24 := by kernel_rfl
theorem zT58 : zT Tryz.prog 58 = some [.nils] := by kernel_rfl
theorem dT59 : dT Tryz.prog 59 = .st [(0, 57)] := by kernel_rfl
theorem sT59 : szT Tryz.prog 59 = 1 := by kernel_rfl
theorem bT59 : byT Tryz.prog 59 = 24 := by kernel_rfl
theorem zT59 : zT Tryz.prog 59 = some [.nils] := by kernel_rfl
theorem dT60 : dT Tryz.prog 60 = .arr 8 4 := by kernel_rfl
theorem sT60 : szT Tryz.prog 60 = 8 := by kernel_rfl
theorem bT60 : byT Tryz.prog 60 = 8 := by kernel_rfl
theorem zT60 : zT Tryz.prog 60 = some [.b false, .b false, .b false, .b false, .b false, .b false, .b false, .b false] := by kernel_rfl
theorem gT60 : tagsT Tryz.prog 12 60 = some [.q, .q, .q, .q, .q, .q, .q, .q] := by kernel_rfl
theorem eqT60 {a b : List Sc} : abin Tryz.prog .eql 60 (.g a) (.g b) = (csEq [.q, .q, .q, .q, .q, .q, .q, .q] a b).bind (eqU .eql) := ab_g_eql _ (by simp only [dT60, D.agg]) gT60
theorem neT60 {a b : List Sc} : abin Tryz.prog .neq 60 (.g a) (.g b) = (csEq [.q, .q, .q, .q, .q, .q, .q, .q] a b).bind (eqU .neq) := ab_g_neq _ (by simp only [dT60, D.agg]) gT60
theorem dT61 : dT Tryz.prog 61 = .arr 8 25 := by kernel_rfl
theorem sT61 : szT Tryz.prog 61 = 8 := by kernel_rfl
theorem bT61 : byT Tryz.prog 61 = 64 := by kernel_rfl
theorem zT61 : zT Tryz.prog 61 = some [.u 0#64, .u 0#64, .u 0#64, .u 0#64, .u 0#64, .u 0#64, .u 0#64, .u 0#64] := by kernel_rfl
theorem gT61 : tagsT Tryz.prog 12 61 = some [.n, .n, .n, .n, .n, .n, .n, .n] := by kernel_rfl
theorem eqT61 {a b : List Sc} : abin Tryz.prog .eql 61 (.g a) (.g b) = (csEq [.n, .n, .n, .n, .n, .n, .n, .n] a b).bind (eqU .eql) := ab_g_eql _ (by simp only [dT61, D.agg]) gT61
theorem neT61 {a b : List Sc} : abin Tryz.prog .neq 61 (.g a) (.g b) = (csEq [.n, .n, .n, .n, .n, .n, .n, .n] a b).bind (eqU .neq) := ab_g_neq _ (by simp only [dT61, D.agg]) gT61
theorem dT62 : dT Tryz.prog 62 = .st [(0, 60), (8, 61)] := by kernel_rfl
theorem sT62 : szT Tryz.prog 62 = 16 := by kernel_rfl
theorem bT62 : byT Tryz.prog 62 = 72 := by kernel_rfl
theorem zT62 : zT Tryz.prog 62 = some [.b false, .b false, .b false, .b false, .b false, .b false, .b false, .b false, .u 0#64, .u 0#64, .u 0#64, .u 0#64, .u 0#64, .u 0#64, .u 0#64, .u 0#64] := by kernel_rfl
theorem dT63 : dT Tryz.prog 63 = .st [(0, 60), (8, 61)] := by kernel_rfl
theorem sT63 : szT Tryz.prog 63 = 16 := by kernel_rfl
theorem bT63 : byT Tryz.prog 63 = 72 := by kernel_rfl
theorem zT63 : zT Tryz.prog 63 = some [.b false, .b false, .b false, .b false, .b false, .b false, .b false, .b false, .u 0#64, .u 0#64, .u 0#64, .u 0#64, .u 0#64, .u 0#64, .u 0#64, .u 0#64] := by kernel_rfl
theorem gT63 : tagsT Tryz.prog 12 63 = some [.q, .q, .q, .q, .q, .q, .q, .q, .n, .n, .n, .n, .n, .n, .n, .n] := by kernel_rfl
theorem eqT63 {a b : List Sc} : abin Tryz.prog .eql 63 (.g a) (.g b) = (csEq [.q, .q, .q, .q, .q, .q, .q, .q, .n, .n, .n, .n, .n, .n, .n, .n] a b).bind (eqU .eql) := ab_g_eql _ (by simp only [dT63, D.agg]) gT63
theorem neT63 {a b : List Sc} : abin Tryz.prog .neq 63 (.g a) (.g b) = (csEq [.q, .q, .q, .q, .q, .q, .q, .q, .n, .n, .n, .n, .n, .n, .n, .n] a b).bind (eqU .neq) := ab_g_neq _ (by simp only [dT63, D.agg]) gT63
theorem dT64 : dT Tryz.prog 64 = .st [(0, 23), (4, 59), (5, 63)] := by kernel_rfl
theorem sT64 : szT Tryz.prog 64 = 21 := by kernel_rfl
theorem bT64 : byT Tryz.prog 64 = 128 := by kernel_rfl
theorem zT64 : zT Tryz.prog 64 = some [.i 0, .i 0, .i 0, .i 0, .nils, .b false, .b false, .b false, .b false, .b false, .b false, .b false, .b false, .u 0#64, .u 0#64, .u 0#64, .u 0#64, .u 0#64, .u 0#64, .u 0#64, .u 0#64] := by kernel_rfl
theorem dT65 : dT Tryz.prog 65 = .st [(0, 23), (4, 59), (5, 63)] := by kernel_rfl
theorem sT65 : szT Tryz.prog 65 = 21 := by kernel_rfl
theorem bT65 : byT Tryz.prog 65 = 128 := by kernel_rfl
theorem zT65 : zT Tryz.prog 65 = some [.i 0, .i 0, .i 0, .i 0, .nils, .b false, .b false, .b false, .b false, .b false, .b false, .b false, .b false, .u 0#64, .u 0#64, .u 0#64, .u 0#64, .u 0#64, .u 0#64, .u 0#64, .u 0#64] := by kernel_rfl
theorem dT66 : dT Tryz.prog 66 = .other := by kernel_rfl
theorem sT66 : szT Tryz.prog 66 = 1 := by kernel_rfl
theorem bT66 : byT Tryz.prog 66 = 8 := by kernel_rfl
theorem zT66 : zT Tryz.prog 66 = some [.nilf] := by kernel_rfl
theorem eql1T66 {f : Nat} {c : List (Nat × Nat × Nat)}  : abin Tryz.prog .eql 66 (.c (.f f c)) (.c .nilf) = some (.c (.b false)) := by kernel_rfl
theorem eql2T66 : abin Tryz.prog .eql 66 (.c .nilf) (.c .nilf) = some (.c (.b true)) := by kernel_rfl
theorem neq1T66 {f : Nat} {c : List (Nat × Nat × Nat)}  : abin Tryz.prog .neq 66 (.c (.f f c)) (.c .nilf) = some (.c (.b true)) := by kernel_rfl
theorem neq2T66 : abin Tryz.prog .neq 66 (.c .nilf) (.c .nilf) = some (.c (.b false)) := by kernel_rfl
theorem dT67 : dT Tryz.prog 67 = .other := by kernel_rfl
theorem sT67 : szT Tryz.prog 67 = 1 := by kernel_rfl
theorem bT67 : byT Tryz.prog 67 = 8 := by kernel_rfl
theorem zT67 : zT Tryz.prog 67 = some [.nilf] := by kernel_rfl
theorem eql1T67 {f : Nat} {c : List (Nat × Nat × Nat)}  : abin Tryz.prog .eql 67 (.c (.f f c)) (.c .nilf) = some (.c (.b false)) := by kernel_rfl
theorem eql2T67 : abin Tryz.prog .eql 67 (.c .nilf) (.c .nilf) = some (.c (.b true)) := by kernel_rfl
theorem neq1T67 {f : Nat} {c : List (Nat × Nat × Nat)}  : abin Tryz.prog .neq 67 (.c (.f f c)) (.c .nilf) = some (.c (.b true)) := by kernel_rfl
theorem neq2T67 : abin Tryz.prog .neq 67 (.c .nilf) (.c .nilf) = some (.c (.b false)) := by kernel_rfl
theorem dT68 : dT Tryz.prog 68 = .other := by kernel_rfl
theorem sT68 : szT Tryz.prog 68 = 1 := by kernel_rfl
theorem bT68 : byT Tryz.prog 68 = 8 := by kernel_rfl
theorem zT68 : zT Tryz.prog 68 = some [.nilf] := by kernel_rfl
theorem eql1T68 {f : Nat} {c : List (Nat × Nat × Nat)}  : abin Tryz.prog .eql 68 (.c (.f f c)) (.c .nilf) = some (.c (.b false)) := by kernel_rfl
theorem eql2T68 : abin Tryz.prog .eql 68 (.c .nilf) (.c .nilf) = some (.c (.b true)) := by kernel_rfl
theorem neq1T68 {f : Nat} {c : List (Nat × Nat × Nat)}  : abin Tryz.prog .neq 68 (.c (.f f c)) (.c .nilf) = some (.c (.b true)) := by kernel_rfl
theorem neq2T68 : abin Tryz.prog .neq 68 (.c .nilf) (.c .nilf) = some (.c (.b false)) := by kernel_rfl
theorem dT69 : dT Tryz.prog 69 = .other := by kernel_rfl
theorem sT69 : szT Tryz.prog 69 = 1 := by kernel_rfl
theorem bT69 : byT Tryz.prog 69 = 8 := by kernel_rfl
theorem zT69 : zT Tryz.prog 69 = some [.nilf] := by kernel_rfl
theorem eql1T69 {f : Nat} {c : List (Nat × Nat × Nat)}  : abin Tryz.prog .eql 69 (.c (.f f c)) (.c .nilf) = some (.c (.b false)) := by kernel_rfl
theorem eql2T69 : abin Tryz.prog .eql 69 (.c .nilf) (.c .nilf) = some (.c (.b true)) := by kernel_rfl
theorem neq1T69 {f : Nat} {c : List (Nat × Nat × Nat)}  : abin Tryz.prog .neq 69 (.c (.f f c)) (.c .nilf) = some (.c (.b true)) := by kernel_rfl
theorem neq2T69 : abin Tryz.prog .neq 69 (.c .nilf) (.c .nilf) = some (.c (.b false)) := by kernel_rfl
theorem dT70 : dT Tryz.prog 70 = .other := by kernel_rfl
theorem sT70 : szT Tryz.prog 70 = 1 := by kernel_rfl
theorem bT70 : byT Tryz.prog 70 = 8 := by kernel_rfl
theorem zT70 : zT Tryz.prog 70 = some [.nilf] := by kernel_rfl
theorem eql1T70 {f : Nat} {c : List (Nat × Nat × Nat)}  : abin Tryz.prog .eql 70 (.c (.f f c)) (.c .nilf) = some (.c (.b false)) := by kernel_rfl
theorem eql2T70 : abin Tryz.prog .eql 70 (.c .nilf) (.c .nilf) = some (.c (.b true)) := by kernel_rfl
theorem neq1T70 {f : Nat} {c : List (Nat × Nat × Nat)}  : abin Tryz.prog .neq 70 (.c (.f f c)) (.c .nilf) = some (.c (.b true)) := by kernel_rfl
theorem neq2T70 : abin Tryz.prog .neq 70 (.c .nilf) (.c .nilf) = some (.c (.b false)) := by kernel_rfl
theorem dT71 : dT Tryz.prog 71 = .other := by kernel_rfl
theorem sT71 : szT Tryz.prog 71 = 1 := by kernel_rfl
theorem bT71 : byT Tryz.prog 71 = 8 := by kernel_rfl
theorem zT71 : zT Tryz.prog 71 = some [.nilf] := by kernel_rfl
theorem eql1T71 {f : Nat} {c : List (Nat × Nat × Nat)}  : abin Tryz.prog .eql 71 (.c (.f f c)) (.c .nilf) = some (.c (.b false)) := by kernel_rfl
theorem eql2T71 : abin Tryz.prog .eql 71 (.c .nilf) (.c .nilf) = some (.c (.b true)) := by kernel_rfl
theorem neq1T71 {f : Nat} {c : List (Nat × Nat × Nat)}  : abin Tryz.prog .neq 71 (.c (.f f c)) (.c .nilf) = some (.c (.b true)) := by kernel_rfl
theorem neq2T71 : abin Tryz.prog .neq 71 (.c .nilf) (.c .nilf) = some (.c (.b false)) := by kernel_rfl
theorem dT72 : dT Tryz.prog 72 = .st [(0, 42)] := by kernel_rfl
theorem sT72 : szT Tryz.prog 72 = 1 := by kernel_rfl
theorem bT72 : byT Tryz.prog 72 = 8 := by kernel_rfl
theorem zT72 : zT Tryz.prog 72 = some [.nilp] := by kernel_rfl
theorem dT73 : dT Tryz.prog 73 = .st [(0, 42)] := by kernel_rfl
theorem sT73 : szT Tryz.prog 73 = 1 := by kernel_rfl
theorem bT73 : byT Tryz.prog 73 = 8 := by kernel_rfl
theorem zT73 : zT Tryz.prog 73 = some [.nilp] := by kernel_rfl
theorem dT74 : dT Tryz.prog 74 = .st [(0, 4), (1, 25)] := by kernel_rfl
theorem sT74 : szT Tryz.prog 74 = 2 := by kernel_rfl
theorem bT74 : byT Tryz.prog 74 = 16 := by kernel_rfl
theorem zT74 : zT Tryz.prog 74 = some [.b false, .u 0#64] := by kernel_rfl
theorem dT75 : dT Tryz.prog 75 = .st [(0, 4), (1, 25)] := by kernel_rfl
theorem sT75 : szT Tryz.prog 75 = 2 := by kernel_rfl
theorem bT75 : byT Tryz.prog 75 = 16 := by kernel_rfl
theorem zT75 : zT Tryz.prog 75 = some [.b false, .u 0#64] := by kernel_rfl
theorem gT75 : tagsT Tryz.prog 12 75 = some [.q, .n] := by kernel_rfl
theorem eqT75 {a b : List Sc} : abin Tryz.prog .eql 75 (.g a) (.g b) = (csEq [.q, .n] a b).bind (eqU .eql) := ab_g_eql _ (by simp only [dT75, D.agg]) gT75
theorem neT75 {a b : List Sc} : abin Tryz.prog .neq 75 (.g a) (.g b) = (csEq [.q, .n] a b).bind (eqU .neq) := ab_g_neq _ (by simp only [dT75, D.agg]) gT75
theorem dT76 : dT Tryz.prog 76 = .arr 8 75 := by kernel_rfl
theorem sT76 : szT Tryz.prog 76 = 16 := by kernel_rfl
theorem bT76 : byT Tryz.prog 76 = 128 := by kernel_rfl
theorem zT76 : zT Tryz.prog 76 = some [.b false, .u 0#64, .b false, .u 0#64, .b false, .u 0#64, .b false, .u 0#64, .b false, .u 0#64, .b false, .u 0#64, .b false, .u 0#64, .b false, .u 0#64] := by kernel_rfl
theorem gT76 : tagsT Tryz.prog 12 76 = some [.q, .n, .q, .n, .q, .n, .q, .n, .q, .n, .q, .n, .q, .n, .q, .n] := by kernel_rfl
theorem eqT76 {a b : List Sc} : abin Tryz.prog .eql 76 (.g a) (.g b) = (csEq [.q, .n, .q, .n, .q, .n, .q, .n, .q, .n, .q, .n, .q, .n, .q, .n] a b).bind (eqU .eql) := ab_g_eql _ (by simp only [dT76, D.agg]) gT76
theorem neT76 {a b : List Sc} : abin Tryz.prog .neq 76 (.g a) (.g b) = (csEq [.q, .n, .q, .n, .q, .n, .q, .n, .q, .n, .q, .n, .q, .n, .q, .n] a b).bind (eqU .neq) := ab_g_neq _ (by simp only [dT76, D.agg]) gT76
theorem dT77 : dT Tryz.prog 77 = .st [(0, 76)] := by kernel_rfl
theorem sT77 : szT Tryz.prog 77 = 16 := by kernel_rfl
theorem bT77 : byT Tryz.prog 77 = 128 := by kernel_rfl
theorem zT77 : zT Tryz.prog 77 = some [.b false, .u 0#64, .b false, .u 0#64, .b false, .u 0#64, .b false, .u 0#64, .b false, .u 0#64, .b false, .u 0#64, .b false, .u 0#64, .b false, .u 0#64] := by kernel_rfl
theorem dT78 : dT Tryz.prog 78 = .st [(0, 76)] := by kernel_rfl
theorem sT78 : szT Tryz.prog 78 = 16 := by kernel_rfl
theorem bT78 : byT Tryz.prog 78 = 128 := by kernel_rfl
theorem zT78 : zT Tryz.prog 78 = some [.b false, .u 0#64, .b false, .u 0#64, .b false, .u 0#64, .b false, .u 0#64, .b false, .u 0#64, .b false, .u 0#64, .b false, .u 0#64, .b false, .u 0#64] := by kernel_rfl
theorem gT78 : tagsT Tryz.prog 12 78 = some [.q, .n, .q, .n, .q, .n, .q, .n, .q, .n, .q, .n, .q, .n, .q, .n] := by kernel_rfl
theorem eqT78 {a b : List Sc} : abin Tryz.prog .eql 78 (.g a) (.g b) = (csEq [.q, .n, .q, .n, .q, .n, .q, .n, .q, .n, .q, .n, .q, .n, .q, .n] a b).bind (eqU .eql) := ab_g_eql _ (by simp only [dT78, D.agg]) gT78
theorem neT78 {a b : List Sc} : abin Tryz.prog .neq 78 (.g a) (.g b) = (csEq [.q, .n, .q, .n, .q, .n, .q, .n, .q, .n, .q, .n, .q, .n, .q, .n] a b).bind (eqU .neq) := ab_g_neq _ (by simp only [dT78, D.agg]) gT78
theorem dT79 : dT Tryz.prog 79 = .st [(0, 73), (1, 23), (5, 78)] := by kernel_rfl
theorem sT79 : szT Tryz.prog 79 = 21 := by kernel_rfl
theorem bT79 : byT Tryz.prog 79 = 168 := by kernel_rfl
theorem zT79 : zT Tryz.prog 79 = some [.nilp, .i 0, .i 0, .i 0, .i 0, .b false, .u 0#64, .b false, .u 0#64, .b false, .u 0#64, .b false, .u 0#64, .b false, .u 0#64, .b false, .u 0#64, .b false, .u 0#64, .b false, .u 0#64] := by kernel_rfl
theorem dT80 : dT Tryz.prog 80 = .st [(0, 73), (1, 23), (5, 78)] := by kernel_rfl
theorem sT80 : szT Tryz.prog 80 = 21 := by kernel_rfl
theorem bT80 : byT Tryz.prog 80 = 168 := by kernel_rfl
theorem zT80 : zT Tryz.prog 80 = some [.nilp, .i 0, .i 0, .i 0, .i 0, .b false, .u 0#64, .b false, .u 0#64, .b false, .u 0#64, .b false, .u 0#64, .b false, .u 0#64, .b false, .u 0#64, .b false, .u 0#64, .b false, .u 0#64] := by kernel_rfl
theorem dT81 : dT Tryz.prog 81 = .other := by kernel_rfl
theorem sT81 : szT Tryz.prog 81 = 1 := by kernel_rfl
theorem bT81 : byT Tryz.prog 81 = 8 := by kernel_rfl
theorem zT81 : zT Tryz.prog 81 = some [.nilf] := by kernel_rfl
theorem eql1T81 {f : Nat} {c : List (Nat × Nat × Nat)}  : abin Tryz.prog .eql 81 (.c (.f f c)) (.c .nilf) = some (.c (.b false)) := by kernel_rfl
theorem eql2T81 : abin Tryz.prog .eql 81 (.c .nilf) (.c .nilf) = some (.c (.b true)) := by kernel_rfl
theorem neq1T81 {f : Nat} {c : List (Nat × Nat × Nat)}  : abin Tryz.prog .neq 81 (.c (.f f c)) (.c .nilf) = some (.c (.b true)) := by kernel_rfl
theorem neq2T81 : abin Tryz.prog .neq 81 (.c .nilf) (.c .nilf) = some (.c (.b false)) := by kernel_rfl
theorem dT82 : dT Tryz.prog 82 = .other := by kernel_rfl
theorem sT82 : szT Tryz.prog 82 = 1 := by kernel_rfl
theorem bT82 : byT Tryz.prog 82 = 8 := by kernel_rfl
theorem zT82 : zT Tryz.prog 82 = some [.nilf] := by kernel_rfl
theorem eql1T82 {f : Nat} {c : List (Nat × Nat × Nat)}  : abin Tryz.prog .eql 82 (.c (.f f c)) (.c .nilf) = some (.c (.b false)) := by kernel_rfl
theorem eql2T82 : abin Tryz.prog .eql 82 (.c .nilf) (.c .nilf) = some (.c (.b true)) := by kernel_rfl
theorem neq1T82 {f : Nat} {c : List (Nat × Nat × Nat)}  : abin Tryz.prog .neq 82 (.c (.f f c)) (.c .nilf) = some (.c (.b true)) := by kernel_rfl
theorem neq2T82 : abin Tryz.prog .neq 82 (.c .nilf) (.c .nilf) = some (.c (.b false)) := by kernel_rfl
theorem dT84 : dT Tryz.prog 84 = .other := by kernel_rfl
theorem sT84 : szT Tryz.prog 84 = 1 := by kernel_rfl
theorem bT84 : byT Tryz.prog 84 = 8 := by kernel_rfl
theorem zT84 : zT Tryz.prog 84 = some [.nilf] := by kernel_rfl
theorem eql1T84 {f : Nat} {c : List (Nat × Nat × Nat)}  : abin Tryz.prog .eql 84 (.c (.f f c)) (.c .nilf) = some (.c (.b false)) := by kernel_rfl
theorem eql2T84 : abin Tryz.prog .eql 84 (.c .nilf) (.c .nilf) = some (.c (.b true)) := by kernel_rfl
theorem neq1T84 {f : Nat} {c : List (Nat × Nat × Nat)}  : abin Tryz.prog .neq 84 (.c (.f f c)) (.c .nilf) = some (.c (.b true)) := by kernel_rfl
theorem neq2T84 : abin Tryz.prog .neq 84 (.c .nilf) (.c .nilf) = some (.c (.b false)) := by kernel_rfl
theorem dT85 : dT Tryz.prog 85 = .other := by kernel_rfl
theorem sT85 : szT Tryz.prog 85 = 1 := by kernel_rfl
theorem bT85 : byT Tryz.prog 85 = 8 := by kernel_rfl
theorem zT85 : zT Tryz.prog 85 = some [.nilf] := by kernel_rfl
theorem eql1T85 {f : Nat} {c : List (Nat × Nat × Nat)}  : abin Tryz.prog .eql 85 (.c (.f f c)) (.c .nilf) = some (.c (.b false)) := by kernel_rfl
theorem eql2T85 : abin Tryz.prog .eql 85 (.c .nilf) (.c .nilf) = some (.c (.b true)) := by kernel_rfl
theorem neq1T85 {f : Nat} {c : List (Nat × Nat × Nat)}  : abin Tryz.prog .neq 85 (.c (.f f c)) (.c .nilf) = some (.c (.b true)) := by kernel_rfl
theorem neq2T85 : abin Tryz.prog .neq 85 (.c .nilf) (.c .nilf) = some (.c (.b false)) := by kernel_rfl
theorem dT86 : dT Tryz.prog 86 = .other := by kernel_rfl
theorem sT86 : szT Tryz.prog 86 = 1 := by kernel_rfl
theorem bT86 : byT Tryz.prog 86 = 8 := by kernel_rfl
theorem zT86 : zT Tryz.prog 86 = some [.nilf] := by kernel_rfl
theorem eql1T86 {f : Nat} {c : List (Nat × Nat × Nat)}  : abin Tryz.prog .eql 86 (.c (.f f c)) (.c .nilf) = some (.c (.b false)) := by kernel_rfl
theorem eql2T86 : abin Tryz.prog .eql 86 (.c .nilf) (.c .nilf) = some (.c (.b true)) := by kernel_rfl
theorem neq1T86 {f : Nat} {c : List (Nat × Nat × Nat)}  : abin Tryz.prog .neq 86 (.c (.f f c)) (.c .nilf) = some (.c (.b true)) := by kernel_rfl
theorem neq2T86 : abin Tryz.prog .neq 86 (.c .nilf) (.c .nilf) = some (.c (.b false)) := by kernel_rfl
theorem dT87 : dT Tryz.prog 87 = .other := by kernel_rfl
theorem sT87 : szT Tryz.prog 87 = 1 := by kernel_rfl
theorem bT87 : byT Tryz.prog 87 = 8 := by kernel_rfl
theorem zT87 : zT Tryz.prog 87 = some [.nilf] := by kernel_rfl
theorem eql1T87 {f : Nat} {c : List (Nat × Nat × Nat)}  : abin Tryz.prog .eql 87 (.c (.f f c)) (.c .nilf) = some (.c (.b false)) := by kernel_rfl
theorem eql2T87 : abin Tryz.prog .eql 87 (.c .nilf) (.c .nilf) = some (.c (.b true)) := by kernel_rfl
theorem neq1T87 {f : Nat} {c : List (Nat × Nat × Nat)}  : abin Tryz.prog .neq 87 (.c (.f f c)) (.c .nilf) = some (.c (.b true)) := by kernel_rfl
theorem neq2T87 : abin Tryz.prog .neq 87 (.c .nilf) (.c .nilf) = some (.c (.b false)) := by kernel_rfl
theorem dT88 : dT Tryz.prog 88 = .sl 91 := by kernel_rfl
theorem sT88 : szT Tryz.prog 88 = 1 := by kernel_rfl
theorem bT88 : byT Tryz.prog 88 = 24 := by kernel_rfl
theorem zT88 : zT Tryz.prog 88 = some [.nils] := by kernel_rfl
theorem eql1T88 {a b c n : Nat}  : abin Tryz.prog .eql 88 (.c (.sl a b c n)) (.c .nils) = if n = 0 then some (.c .qq) else some (.c (.b false)) := by kernel_rfl
theorem eql2T88 : abin Tryz.prog .eql 88 (.c .nils) (.c .nils) = some (.c (.b true)) := by kernel_rfl
theorem neq1T88 {a b c n : Nat}  : abin Tryz.prog .neq 88 (.c (.sl a b c n)) (.c .nils) = if n = 0 then some (.c .qq) else some (.c (.b true)) := by kernel_rfl
theorem neq2T88 : abin Tryz.prog .neq 88 (.c .nils) (.c .nils) = some (.c (.b false)) := by kernel_rfl
theorem dT89 : dT Tryz.prog 89 = .other := by kernel_rfl
theorem sT89 : szT Tryz.prog 89 = 1 := by kernel_rfl
theorem bT89 : byT Tryz.prog 89 = 8 := by kernel_rfl
theorem zT89 : zT Tryz.prog 89 = some [.nilf] := by kernel_rfl
theorem eql1T89 {f : Nat} {c : List (Nat × Nat × Nat)}  : abin Tryz.prog .eql 89 (.c (.f f c)) (.c .nilf) = some (.c (.b false)) := by kernel_rfl
theorem eql2T89 : abin Tryz.prog .eql 89 (.c .nilf) (.c .nilf) = some (.c (.b true)) := by kernel_rfl
theorem neq1T89 {f : Nat} {c : List (Nat × Nat × Nat)}  : abin Tryz.prog .neq 89 (.c (.f f c)) (.c .nilf) = some (.c (.b true)) := by kernel_rfl
theorem neq2T89 : abin Tryz.prog .neq 89 (.c .nilf) (.c .nilf) = some (.c (.b false)) := by kernel_rfl
theorem dT90 : dT Tryz.prog 90 = .st [(0, 25), (1, 3), (2, 3)] := by kernel_rfl
theorem sT90 : szT Tryz.prog 90 = 3 := by kernel_rfl
theorem bT90 : byT Tryz.prog 90 = 24 := by kernel_rfl
theorem zT90 : zT Tryz.prog 90 = some [.u 0#64, .i 0, .i 0] := by kernel_rfl
theorem dT91 : dT Tryz.prog 91 = .st [(0, 25), (1, 3), (2, 3)] := by kernel_rfl
theorem sT91 : szT Tryz.prog 91 = 3 := by kernel_rfl
theorem bT91 : byT Tryz.prog 91 = 24 := by kernel_rfl
theorem zT91 : zT Tryz.prog 91 = some [.u 0#64, .i 0, .i 0] := by kernel_rfl
theorem gT91 : tagsT Tryz.prog 12 91 = some [.n, .n, .n] := by kernel_rfl
theorem eqT91 {a b : List Sc} : abin Tryz.prog .eql 91 (.g a) (.g b) = (csEq [.n, .n, .n] a b).bind (eqU .eql) := ab_g_eql _ (by simp only [dT91, D.agg]) gT91
theorem neT91 {a b : List Sc} : abin Tryz.prog .neq 91 (.g a) (.g b) = (csEq [.n, .n, .n] a b).bind (eqU .neq) := ab_g_neq _ (by simp only [dT91, D.agg]) gT91
theorem dT92 : dT Tryz.prog 92 = .other := by kernel_rfl
theorem sT92 : szT Tryz.prog 92 = 1 := by kernel_rfl
theorem bT92 : byT Tryz.prog 92 = 8 := by kernel_rfl
theorem zT92 : zT Tryz.prog 92 = some [.nilf] := by kernel_rfl
theorem eql1T92 {f : Nat} {c : List (Nat × Nat × Nat)}  : abin Tryz.prog .eql 92 (.c (.f f c)) (.c .nilf) = some (.c (.b false)) := by kernel_rfl
theorem eql2T92 : abin Tryz.prog .eql 92 (.c .nilf) (.c .nilf) = some (.c (.b true)) := by kernel_rfl
theorem neq1T92 {f : Nat} {c : List (Nat × Nat × Nat)}  : abin Tryz.prog .neq 92 (.c (.f f c)) (.c .nilf) = some (.c (.b true)) := by kernel_rfl
theorem neq2T92 : abin Tryz.prog .neq 92 (.c .nilf) (.c .nilf) = some (.c (.b false)) := by kernel_rfl
theorem dT93 : dT Tryz.prog 93 = .other := by kernel_rfl
theorem sT93 : szT Tryz.prog 93 = 1 := by kernel_rfl
theorem bT93 : byT Tryz.prog 93 = 8 := by kernel_rfl
theorem zT93 : zT Tryz.prog 93 = some [.nilf] := by kernel_rfl
theorem eql1T93 {f : Nat} {c : List (Nat × Nat × Nat)}  : abin Tryz.prog .eql 93 (.c (.f f c)) (.c .nilf) = some (.c (.b false)) := by kernel_rfl
theorem eql2T93 : abin Tryz.prog .eql 93 (.c .nilf) (.c .nilf) = some (.c (.b true)) := by kernel_rfl
theorem neq1T93 {f : Nat} {c : List (Nat × Nat × Nat)}  : abin Tryz.prog .neq 93 (.c (.f f c)) (.c .nilf) = some (.c (.b true)) := by kernel_rfl
theorem neq2T93 : abin Tryz.prog .neq 93 (.c .nilf) (.c .nilf) = some (.c (.b false)) := by kernel_rfl
theorem dT95 : dT Tryz.prog 95 = .other := by kernel_rfl
theorem sT95 : szT Tryz.prog 95 = 1 := by kernel_rfl
theorem bT95 : byT Tryz.prog 95 = 8 := by kernel_rfl
theorem zT95 : zT Tryz.prog 95 = some [.nilf] := by kernel_rfl
theorem eql1T95 {f : Nat} {c : List (Nat × Nat × Nat)}  : abin Tryz.prog .eql 95 (.c (.f f c)) (.c .nilf) = some (.c (.b false)) := by kernel_rfl
theorem eql2T95 : abin Tryz.prog .eql 95 (.c .nilf) (.c .nilf) = some (.c (.b true)) := by kernel_rfl
theorem neq1T95 {f : Nat} {c : List (Nat × Nat × Nat)}  : abin Tryz.prog .neq 95 (.c (.f f c)) (.c .nilf) = some (.c (.b true)) := by kernel_rfl
theorem neq2T95 : abin Tryz.prog .neq 95 (.c .nilf) (.c .nilf) = some (.c (.b false)) := by kernel_rfl
theorem dT96 : dT Tryz.prog 96 = .other := by kernel_rfl
theorem sT96 : szT Tryz.prog 96 = 1 := by kernel_rfl
theorem bT96 : byT Tryz.prog 96 = 8 := by kernel_rfl
theorem zT96 : zT Tryz.prog 96 = some [.nilf] := by kernel_rfl
theorem eql1T96 {f : Nat} {c : List (Nat × Nat × Nat)}  : abin Tryz.prog .eql 96 (.c (.f f c)) (.c .nilf) = some (.c (.b false)) := by kernel_rfl
theorem eql2T96 : abin Tryz.prog .eql 96 (.c .nilf) (.c .nilf) = some (.c (.b true)) := by kernel_rfl
theorem neq1T96 {f : Nat} {c : List (Nat × Nat × Nat)}  : abin Tryz.prog .neq 96 (.c (.f f c)) (.c .nilf) = some (.c (.b true)) := by kernel_rfl
theorem neq2T96 : abin Tryz.prog .neq 96 (.c .nilf) (.c .nilf) = some (.c (.b false)) := by kernel_rfl
theorem dT97 : dT Tryz.prog 97 = .other := by kernel_rfl
theorem sT97 : szT Tryz.prog 97 = 1 := by kernel_rfl
theorem bT97 : byT Tryz.prog 97 = 8 := by kernel_rfl
theorem zT97 : zT Tryz.prog 97 = some [.nilf] := by kernel_rfl
theorem eql1T97 {f : Nat} {c : List (Nat × Nat × Nat)}  : abin Tryz.prog .eql 97 (.c (.f f c)) (.c .nilf) = some (.c (.b false)) := by kernel_rfl
theorem eql2T97 : abin Tryz.prog .eql 97 (.c .nilf) (.c .nilf) = some (.c (.b true)) := by kernel_rfl
theorem neq1T97 {f : Nat} {c : List (Nat × Nat × Nat)}  : abin Tryz.prog .neq 97 (.c (.f f c)) (.c .nilf) = some (.c (.b true)) := by kernel_rfl
theorem neq2T97 : abin Tryz.prog .neq 97 (.c .nilf) (.c .nilf) = some (.c (.b false)) := by kernel_rfl
theorem dT98 : dT Tryz.prog 98 = .other := by kernel_rfl
theorem sT98 : szT Tryz.prog 98 = 1 := by kernel_rfl
theorem bT98 : byT Tryz.prog 98 = 8 := by kernel_rfl
theorem zT98 : zT Tryz.prog 98 = some [.nilf] := by kernel_rfl
theorem eql1T98 {f : Nat} {c : List (Nat × Nat × Nat)}  : abin Tryz.prog .eql 98 (.c (.f f c)) (.c .nilf) = some (.c (.b false)) := by kernel_rfl
theorem eql2T98 : abin Tryz.prog .eql 98 (.c .nilf) (.c .nilf) = some (.c (.b true)) := by kernel_rfl
theorem neq1T98 {f : Nat} {c : List (Nat × Nat × Nat)}  : abin Tryz.prog .neq 98 (.c (.f f c)) (.c .nilf) = some (.c (.b true)) := by kernel_rfl
theorem neq2T98 : abin Tryz.prog .neq 98 (.c .nilf) (.c .nilf) = some (.c (.b false)) := by kernel_rfl
theorem dT99 : dT Tryz.prog 99 = .other := by kernel_rfl
theorem sT99 : szT Tryz.prog 99 = 1 := by kernel_rfl
theorem bT99 : byT Tryz.prog 99 = 8 := by kernel_rfl
theorem zT99 : zT Tryz.prog 99 = some [.nilf] := by kernel_rfl
theorem eql1T99 {f : Nat} {c : List (Nat × Nat × Nat)}  : abin Tryz.prog .eql 99 (.c (.f f c)) (.c .nilf) = some (.c (.b false)) := by kernel_rfl
theorem eql2T99 : abin Tryz.prog .eql 99 (.c .nilf) (.c .nilf) = some (.c (.b true)) := by kernel_rfl
theorem neq1T99 {f : Nat} {c : List (Nat × Nat × Nat)}  : abin Tryz.prog .neq 99 (.c (.f f c)) (.c .nilf) = some (.c (.b true)) := by kernel_rfl
theorem neq2T99 : abin Tryz.prog .neq 99 (.c .nilf) (.c .nilf) = some (.c (.b false)) := by kernel_rfl
theorem dT100 : dT Tryz.prog 100 = .other := by kernel_rfl
theorem sT100 : szT Tryz.prog 100 = 1 := by kernel_rfl
theorem bT100 : byT Tryz.prog 100 = 8 := by kernel_rfl
theorem zT100 : zT Tryz.prog 100 = some [.nilf] := by kernel_rfl
theorem eql1T100 {f : Nat} {c : List (Nat × Nat × Nat)}  : abin Tryz.prog .eql 100 (.c (.f f c)) (.c .nilf) = some (.c (.b false)) := by kernel_rfl
theorem eql2T100 : abin Tryz.prog .eql 100 (.c .nilf) (.c .nilf) = some (.c (.b true)) := by kernel_rfl
theorem neq1T100 {f : Nat} {c : List (Nat × Nat × Nat)}  : abin Tryz.prog .neq 100 (.c (.f f c)) (.c .nilf) = some (.c (.b true)) := by kernel_rfl
theorem neq2T100 : abin Tryz.prog .neq 100 (.c .nilf) (.c .nilf) = some (.c (.b false)) := by kernel_rfl
theorem dT101 : dT Tryz.prog 101 = .sl 104 := by kernel_rfl
theorem sT101 : szT Tryz.prog 101 = 1 := by kernel_rfl
theorem bT101 : byT Tryz.prog 101 = 24 := by kernel_rfl
theorem zT101 : zT Tryz.prog 101 = some [.nils] := by kernel_rfl
theorem eql1T101 {a b c n : Nat}  : abin Tryz.prog .eql 101 (.c (.sl a b c n)) (.c .nils) = if n = 0 then some (.c .qq) else some (.c (.b false)) := by kernel_rfl
theorem eql2T101 : abin Tryz.prog .eql 101 (.c .nils) (.c .nils) = some (.c (.b true)) := by kernel_rfl
theorem neq1T101 {a b c n : Nat}  : abin Tryz.prog .neq 101 (.c (.sl a b c n)) (.c .nils) = if n = 0 then some (.c .qq) else some (.c (.b true)) := by kernel_rfl
theorem neq2T101 : abin Tryz.prog .neq 101 (.c .nils) (.c .nils) = some (.c (.b false)) := by kernel_rfl
theorem dT102 : dT Tryz.prog 102 = .other := by kernel_rfl
theorem sT102 : szT Tryz.prog 102 = 1 := by kernel_rfl
theorem bT102 : byT Tryz.prog 102 = 8 := by kernel_rfl
theorem zT102 : zT Tryz.prog 102 = some [.nilf] := by kernel_rfl
theorem eql1T102 {f : Nat} {c : List (Nat × Nat × Nat)}  : abin Tryz.prog .eql 102 (.c (.f f c)) (.c .nilf) = some (.c (.b false)) := by kernel_rfl
theorem eql2T102 : abin Tryz.prog .eql 102 (.c .nilf) (.c .nilf) = some (.c (.b true)) := by kernel_rfl
theorem neq1T102 {f : Nat} {c : List (Nat × Nat × Nat)}  : abin Tryz.prog .neq 102 (.c (.f f c)) (.c .nilf) = some (.c (.b true)) := by kernel_rfl
theorem neq2T102 : abin Tryz.prog .neq 102 (.c .nilf) (.c .nilf) = some (.c (.b false)) := by kernel_rfl
theorem dT103 : dT Tryz.prog 103 = .other := by kernel_rfl
theorem sT103 : szT Tryz.prog 103 = 1 := by kernel_rfl
theorem bT103 : byT Tryz.prog 103 = 8 := by kernel_rfl
theorem zT103 : zT Tryz.prog 103 = some [.nilf] := by kernel_rfl
theorem eql1T103 {f : Nat} {c : List (Nat × Nat × Nat)}  : abin Tryz.prog .eql 103 (.c (.f f c)) (.c .nilf) = some (.c (.b false)) := by kernel_rfl
theorem eql2T103 : abin Tryz.prog .eql 103 (.c .nilf) (.c .nilf) = some (.c (.b true)) := by kernel_rfl
theorem neq1T103 {f : Nat} {c : List (Nat × Nat × Nat)}  : abin Tryz.prog .neq 103 (.c (.f f c)) (.c .nilf) = some (.c (.b true)) := by kernel_rfl
theorem neq2T103 : abin Tryz.prog .neq 103 (.c .nilf) (.c .nilf) = some (.c (.b false)) := by kernel_rfl
theorem dT104 : dT Tryz.prog 104 = .st [(0, 25), (1, 3), (2, 3)] := by kernel_rfl
theorem sT104 : szT Tryz.prog 104 = 3 := by kernel_rfl
theorem bT104 : byT Tryz.prog 104 = 24 := by kernel_rfl
theorem zT104 : zT Tryz.prog 104 = some [.u 0#64, .i 0, .i 0] := by kernel_rfl
theorem gT104 : tagsT Tryz.prog 12 104 = some [.n, .n, .n] := by kernel_rfl
theorem eqT104 {a b : List Sc} : abin Tryz.prog .eql 104 (.g a) (.g b) = (csEq [.n, .n, .n] a b).bind (eqU .eql) := ab_g_eql _ (by simp only [dT104, D.agg]) gT104
theorem neT104 {a b : List Sc} : abin Tryz.prog .neq 104 (.g a) (.g b) = (csEq [.n, .n, .n] a b).bind (eqU .neq) := ab_g_neq _ (by simp only [dT104, D.agg]) gT104
theorem mT105 : mT Tryz.prog 105 = some (131, 129) := by kernel_rfl
theorem kA131 : kA Tryz.prog 131 = some true := by kernel_rfl
theorem kOkG131 {l : List Sc} : kOk Tryz.prog 131 (.g l) = decide (l.length = 2) := by unfold kOk; rw [kA131]; rfl
theorem zA129 : zA Tryz.prog 129 = some (.g (zRow 64 (.k .u8 (0)))) := by kernel_rfl
theorem dT106 : dT Tryz.prog 106 = .st [(0, 3), (1, 105)] := by kernel_rfl
theorem sT106 : szT Tryz.prog 106 = 2 := by kernel_rfl
theorem bT106 : byT Tryz.prog 106 = 16 := by kernel_rfl
theorem zT106 : zT Tryz.prog 106 = some [.i 0, .nilm] := by kernel_rfl
theorem dT107 : dT Tryz.prog 107 = .st [(0, 3), (1, 105)] := by kernel_rfl
theorem sT107 : szT Tryz.prog 107 = 2 := by kernel_rfl
theorem bT107 : byT Tryz.prog 107 = 16 := by kernel_rfl
theorem zT107 : zT Tryz.prog 107 = some [.i 0, .nilm] := by kernel_rfl
theorem dT108 : dT Tryz.prog 108 = .sl 25 := by kernel_rfl
theorem sT108 : szT Tryz.prog 108 = 1 := by kernel_rfl
theorem bT108 : byT Tryz.prog 108 = 24 := by kernel_rfl
theorem zT108 : zT Tryz.prog 108 = some [.nils] := by kernel_rfl
theorem eql1T108 {a b c n : Nat}  : abin Tryz.prog .eql 108 (.c (.sl a b c n)) (.c .nils) = if n = 0 then some (.c .qq) else some (.c (.b false)) := by kernel_rfl
theorem eql2T108 : abin Tryz.prog .eql 108 (.c .nils) (.c .nils) = some (.c (.b true)) := by kernel_rfl
theorem neq1T108 {a b c n : Nat}  : abin Tryz.prog .neq 108 (.c (.sl a b c n)) (.c .nils) = if n = 0 then some (.c .qq) else some (.c (.b true)) := by kernel_rfl
theorem neq2T108 : abin Tryz.prog .neq 108 (.c .nils) (.c .nils) = some (.c (.b false)) := by kernel_rfl
theorem dT109 : dT Tryz.prog 109 = .other := by kernel_rfl
theorem sT109 : szT Tryz.prog 109 = 1 := by kernel_rfl
theorem bT109 : byT Tryz.prog 109 = 8 := by kernel_rfl
theorem zT109 : zT Tryz.prog 109 = some [.nilf] := by kernel_rfl
theorem eql1T109 {f : Nat} {c : List (Nat × Nat × Nat)}  : abin Tryz.prog .eql 109 (.c (.f f c)) (.c .nilf) = some (.c (.b false)) := by kernel_rfl
theorem eql2T109 : abin Tryz.prog .eql 109 (.c .nilf) (.c .nilf) = some (.c (.b true)) := by kernel_rfl
theorem neq1T109 {f : Nat} {c : List (Nat × Nat × Nat)}  : abin Tryz.prog .neq 109 (.c (.f f c)) (.c .nilf) = some (.c (.b true)) := by kernel_rfl
theorem neq2T109 : abin Tryz.prog .neq 109 (.c .nilf) (.c .nilf) = some (.c (.b false)) := by kernel_rfl
theorem dT110 : dT Tryz.prog 110 = .other := by kernel_rfl
theorem sT110 : szT Tryz.prog 110 = 1 := by kernel_rfl
theorem bT110 : byT Tryz.prog 110 = 8 := by kernel_rfl
theorem zT110 : zT Tryz.prog 110 = some [.nilf] := by kernel_rfl
theorem eql1T110 {f : Nat} {c : List (Nat × Nat × Nat)}  : abin Tryz.prog .eql 110 (.c (.f f c)) (.c .nilf) = some (.c (.b false)) := by kernel_rfl
theorem eql2T110 : abin Tryz.prog .eql 110 (.c .nilf) (.c .nilf) = some (.c (.b true)) := by kernel_rfl
theorem neq1T110 {f : Nat} {c : List (Nat × Nat × Nat)}  : abin Tryz.prog .neq 110 (.c (.f f c)) (.c .nilf) = some (.c (.b true)) := by kernel_rfl
theorem neq2T110 : abin Tryz.prog .neq 110 (.c .nilf) (.c .nilf) = some (.c (.b false)) := by kernel_rfl
theorem dT111 : dT Tryz.prog 111 = .other := by kernel_rfl
theorem sT111 : szT Tryz.prog 111 = 1 := by kernel_rfl
theorem bT111 : byT Tryz.prog 111 = 8 := by kernel_rfl
theorem zT111 : zT Tryz.prog 111 = some [.nilf] := by kernel_rfl
theorem eql1T111 {f : Nat} {c : List (Nat × Nat × Nat)}  : abin Tryz.prog .eql 111 (.c (.f f c)) (.c .nilf) = some (.c (.b false)) := by kernel_rfl
theorem eql2T111 : abin Tryz.prog .eql 111 (.c .nilf) (.c .nilf) = some (.c (.b true)) := by kernel_rfl
theorem neq1T111 {f : Nat} {c : List (Nat × Nat × Nat)}  : abin Tryz.prog .neq 111 (.c (.f f c)) (.c .nilf) = some (.c (.b true)) := by kernel_rfl
theorem neq2T111 : abin Tryz.prog .neq 111 (.c .nilf) (.c .nilf) = some (.c (.b false)) := by kernel_rfl
theorem dT112 : dT Tryz.prog 112 = .other := by kernel_rfl
theorem sT112 : szT Tryz.prog 112 = 1 := by kernel_rfl
theorem bT112 : byT Tryz.prog 112 = 8 := by kernel_rfl
theorem zT112 : zT Tryz.prog 112 = some [.nilf] := by kernel_rfl
theorem eql1T112 {f : Nat} {c : List (Nat × Nat × Nat)}  : abin Tryz.prog .eql 112 (.c (.f f c)) (.c .nilf) = some (.c (.b false)) := by kernel_rfl
theorem eql2T112 : abin Tryz.prog .eql 112 (.c .nilf) (.c .nilf) = some (.c (.b true)) := by kernel_rfl
theorem neq1T112 {f : Nat} {c : List (Nat × Nat × Nat)}  : abin Tryz.prog .neq 112 (.c (.f f c)) (.c .nilf) = some (.c (.b true)) := by kernel_rfl
theorem neq2T112 : abin Tryz.prog .neq 112 (.c .nilf) (.c .nilf) = some (.c (.b false)) := by kernel_rfl
theorem dT113 : dT Tryz.prog 113 = .other := by kernel_rfl
theorem sT113 : szT Tryz.prog 113 = 1 := by kernel_rfl
theorem bT113 : byT Tryz.prog 113 = 8 := by kernel_rfl
theorem zT113 : zT Tryz.prog 113 = some [.nilf] := by kernel_rfl
theorem eql1T113 {f : Nat} {c : List (Nat × Nat × Nat)}  : abin Tryz.prog .eql 113 (.c (.f f c)) (.c .nilf) = some (.c (.b false)) := by kernel_rfl
theorem eql2T113 : abin Tryz.prog .eql 113 (.c .nilf) (.c .nilf) = some (.c (.b true)) := by kernel_rfl
theorem neq1T113 {f : Nat} {c : List (Nat × Nat × Nat)}  : abin Tryz.prog .neq 113 (.c (.f f c)) (.c .nilf) = some (.c (.b true)) := by kernel_rfl
theorem neq2T113 : abin Tryz.prog .neq 113 (.c .nilf) (.c .nilf) = some (.c (.b false)) := by kernel_rfl
theorem dT115 : dT Tryz.prog 115 = .other := by kernel_rfl
theorem sT115 : szT Tryz.prog 115 = 1 := by kernel_rfl
theorem bT115 : byT Tryz.prog 115 = 8 := by kernel_rfl
theorem zT115 : zT Tryz.prog 115 = some [.nilf] := by kernel_rfl
theorem eql1T115 {f : Nat} {c : List (Nat × Nat × Nat)}  : abin Tryz.prog .eql 115 (.c (.f f c)) (.c .nilf) = some (.c (.b false)) := by kernel_rfl
theorem eql2T115 : abin Tryz.prog .eql 115 (.c .nilf) (.c .nilf) = some (.c (.b true)) := by kernel_rfl
theorem neq1T115 {f : Nat} {c : List (Nat × Nat × Nat)}  : abin Tryz.prog .neq 115 (.c (.f f c)) (.c .nilf) = some (.c (.b true)) := by kernel_rfl
theorem neq2T115 : abin Tryz.prog .neq 115 (.c .nilf) (.c .nilf) = some (.c (.b false)) := by kernel_rfl
theorem dT116 : dT Tryz.prog 116 = .other := by kernel_rfl
theorem sT116 : szT Tryz.prog 116 = 1 := by kernel_rfl
theorem bT116 : byT Tryz.prog 116 = 8 := by kernel_rfl
theorem zT116 : zT Tryz.prog 116 = some [.nilf] := by kernel_rfl
theorem eql1T116 {f : Nat} {c : List (Nat × Nat × Nat)}  : abin Tryz.prog .eql 116 (.c (.f f c)) (.c .nilf) = some (.c (.b false)) := by kernel_rfl
theorem eql2T116 : abin Tryz.prog .eql 116 (.c .nilf) (.c .nilf) = some (.c (.b true)) := by kernel_rfl
theorem neq1T116 {f : Nat} {c : List (Nat × Nat × Nat)}  : abin Tryz.prog .neq 116 (.c (.f f c)) (.c .nilf) = some (.c (.b true)) := by kernel_rfl
theorem neq2T116 : abin Tryz.prog .neq 116 (.c .nilf) (.c .nilf) = some (.c (.b false)) := by kernel_rfl
theorem dT117 : dT Tryz.prog 117 = .other := by kernel_rfl
theorem sT117 : szT Tryz.prog 117 = 1 := by kernel_rfl
theorem bT117 : byT Tryz.prog 117 = 8 := by kernel_rfl
theorem zT117 : zT Tryz.prog 117 = some [.nilf] := by kernel_rfl
theorem eql1T117 {f : Nat} {c : List (Nat × Nat × Nat)}  : abin Tryz.prog .eql 117 (.c (.f f c)) (.c .nilf) = some (.c (.b false)) := by kernel_rfl
theorem eql2T117 : abin Tryz.prog .eql 117 (.c .nilf) (.c .nilf) = some (.c (.b true)) := by kernel_rfl
theorem neq1T117 {f : Nat} {c : List (Nat × Nat × Nat)}  : abin Tryz.prog .neq 117 (.c (.f f c)) (.c .nilf) = some (.c (.b true)) := by kernel_rfl
theorem neq2T117 : abin Tryz.prog .neq 117 (.c .nilf) (.c .nilf) = some (.c (.b false)) := by kernel_rfl
theorem dT118 : dT Tryz.prog 118 = .other := by kernel_rfl
theorem sT118 : szT Tryz.prog 118 = 1 := by kernel_rfl
theorem bT118 : byT Tryz.prog 118 = 8 := by kernel_rfl
theorem zT118 : zT Tryz.prog 118 = some [.nilf] := by kernel_rfl
theorem eql1T118 {f : Nat} {c : List (Nat × Nat × Nat)}  : abin Tryz.prog .eql 118 (.c (.f f c)) (.c .nilf) = some (.c (.b false)) := by kernel_rfl
theorem eql2T118 : abin Tryz.prog .eql 118 (.c .nilf) (.c .nilf) = some (.c (.b true)) := by kernel_rfl
theorem neq1T118 {f : Nat} {c : List (Nat × Nat × Nat)}  : abin Tryz.prog .neq 118 (.c (.f f c)) (.c .nilf) = some (.c (.b true)) := by kernel_rfl
theorem neq2T118 : abin Tryz.prog .neq 118 (.c .nilf) (.c .nilf) = some (.c (.b false)) := by kernel_rfl
theorem dT119 : dT Tryz.prog 119 = .ptr 78 := by kernel_rfl
theorem sT119 : szT Tryz.prog 119 = 1 := by kernel_rfl
theorem bT119 : byT Tryz.prog 119 = 8 := by kernel_rfl
theorem zT119 : zT Tryz.prog 119 = some [.nilp] := by kernel_rfl
theorem eql1T119 {a b c : Nat}  : abin Tryz.prog .eql 119 (.c (.p a b c)) (.c .nilp) = some (.c (.b false)) := by kernel_rfl
theorem eql2T119 : abin Tryz.prog .eql 119 (.c .nilp) (.c .nilp) = some (.c (.b true)) := by kernel_rfl
theorem neq1T119 {a b c : Nat}  : abin Tryz.prog .neq 119 (.c (.p a b c)) (.c .nilp) = some (.c (.b true)) := by kernel_rfl
theorem neq2T119 : abin Tryz.prog .neq 119 (.c .nilp) (.c .nilp) = some (.c (.b false)) := by kernel_rfl
theorem dT120 : dT Tryz.prog 120 = .other := by kernel_rfl
theorem sT120 : szT Tryz.prog 120 = 1 := by kernel_rfl
theorem bT120 : byT Tryz.prog 120 = 8 := by kernel_rfl
theorem zT120 : zT Tryz.prog 120 = some [.nilf] := by kernel_rfl
theorem eql1T120 {f : Nat} {c : List (Nat × Nat × Nat)}  : abin Tryz.prog .eql 120 (.c (.f f c)) (.c .nilf) = some (.c (.b false)) := by kernel_rfl
theorem eql2T120 : abin Tryz.prog .eql 120 (.c .nilf) (.c .nilf) = some (.c (.b true)) := by kernel_rfl
theorem neq1T120 {f : Nat} {c : List (Nat × Nat × Nat)}  : abin Tryz.prog .neq 120 (.c (.f f c)) (.c .nilf) = some (.c (.b true)) := by kernel_rfl
theorem neq2T120 : abin Tryz.prog .neq 120 (.c .nilf) (.c .nilf) = some (.c (.b false)) := by kernel_rfl
theorem dT121 : dT Tryz.prog 121 = .other := by kernel_rfl
theorem sT121 : szT Tryz.prog 121 = 1 := by kernel_rfl
theorem bT121 : byT Tryz.prog 121 = 8 := by kernel_rfl
theorem zT121 : zT Tryz.prog 121 = some [.nilf] := by kernel_rfl
theorem eql1T121 {f : Nat} {c : List (Nat × Nat × Nat)}  : abin Tryz.prog .eql 121 (.c (.f f c)) (.c .nilf) = some (.c (.b false)) := by kernel_rfl
theorem eql2T121 : abin Tryz.prog .eql 121 (.c .nilf) (.c .nilf) = some (.c (.b true)) := by kernel_rfl
theorem neq1T121 {f : Nat} {c : List (Nat × Nat × Nat)}  : abin Tryz.prog .neq 121 (.c (.f f c)) (.c .nilf) = some (.c (.b true)) := by kernel_rfl
theorem neq2T121 : abin Tryz.prog .neq 121 (.c .nilf) (.c .nilf) = some (.c (.b false)) := by kernel_rfl
theorem dT122 : dT Tryz.prog 122 = .other := by kernel_rfl
theorem sT122 : szT Tryz.prog 122 = 1 := by kernel_rfl
theorem bT122 : byT Tryz.prog 122 = 8 := by kernel_rfl
theorem zT122 : zT Tryz.prog 122 = some [.nilf] := by kernel_rfl
theorem eql1T122 {f : Nat} {c : List (Nat × Nat × Nat)}  : abin Tryz.prog .eql 122 (.c (.f f c)) (.c .nilf) = some (.c (.b false)) := by kernel_rfl
theorem eql2T122 : abin Tryz.prog .eql 122 (.c .nilf) (.c .nilf) = some (.c (.b true)) := by kernel_rfl
theorem neq1T122 {f : Nat} {c : List (Nat × Nat × Nat)}  : abin Tryz.prog .neq 122 (.c (.f f c)) (.c .nilf) = some (.c (.b true)) := by kernel_rfl
theorem neq2T122 : abin Tryz.prog .neq 122 (.c .nilf) (.c .nilf) = some (.c (.b false)) := by kernel_rfl
theorem dT123 : dT Tryz.prog 123 = .other := by kernel_rfl
theorem sT123 : szT Tryz.prog 123 = 1 := by kernel_rfl
theorem bT123 : byT Tryz.prog 123 = 8 := by kernel_rfl
theorem zT123 : zT Tryz.prog 123 = some [.nilf] := by kernel_rfl
theorem eql1T123 {f : Nat} {c : List (Nat × Nat × Nat)}  : abin Tryz.prog .eql 123 (.c (.f f c)) (.c .nilf) = some (.c (.b false)) := by kernel_rfl
theorem eql2T123 : abin Tryz.prog .eql 123 (.c .nilf) (.c .nilf) = some (.c (.b true)) := by kernel_rfl
theorem neq1T123 {f : Nat} {c : List (Nat × Nat × Nat)}  : abin Tryz.prog .neq 123 (.c (.f f c)) (.c .nilf) = some (.c (.b true)) := by kernel_rfl
theorem neq2T123 : abin Tryz.prog .neq 123 (.c .nilf) (.c .nilf) = some (.c (.b false)) := by kernel_rfl
theorem dT124 : dT Tryz.prog 124 = .other := by kernel_rfl
theorem sT124 : szT Tryz.prog 124 = 1 := by kernel_rfl
theorem bT124 : byT Tryz.prog 124 = 8 := by kernel_rfl
theorem zT124 : zT Tryz.prog 124 = some [.nilf] := by kernel_rfl
theorem eql1T124 {f : Nat} {c : List (Nat × Nat × Nat)}  : abin Tryz.prog .eql 124 (.c (.f f c)) (.c .nilf) = some (.c (.b false)) := by kernel_rfl
theorem eql2T124 : abin Tryz.prog .eql 124 (.c .nilf) (.c .nilf) = some (.c (.b true)) := by kernel_rfl
theorem neq1T124 {f : Nat} {c : List (Nat × Nat × Nat)}  : abin Tryz.prog .neq 124 (.c (.f f c)) (.c .nilf) = some (.c (.b true)) := by kernel_rfl
theorem neq2T124 : abin Tryz.prog .neq 124 (.c .nilf) (.c .nilf) = some (.c (.b false)) := by kernel_rfl
theorem dT125 : dT Tryz.prog 125 = .other := by kernel_rfl
theorem sT125 : szT Tryz.prog 125 = 1 := by kernel_rfl
theorem bT125 : byT Tryz.prog 125 = 8 := by kernel_rfl
theorem zT125 : zT Tryz.prog 125 = some [.nilf] := by kernel_rfl
theorem eql1T125 {f : Nat} {c : List (Nat × Nat × Nat)}  : abin Tryz.prog .eql 125 (.c (.f f c)) (.c .nilf) = some (.c (.b false)) := by kernel_rfl
theorem eql2T125 : abin Tryz.prog .eql 125 (.c .nilf) (.c .nilf) = some (.c (.b true)) := by kernel_rfl
theorem neq1T125 {f : Nat} {c : List (Nat × Nat × Nat)}  : abin Tryz.prog .neq 125 (.c (.f f c)) (.c .nilf) = some (.c (.b true)) := by kernel_rfl
theorem neq2T125 : abin Tryz.prog .neq 125 (.c .nilf) (.c .nilf) = some (.c (.b false)) := by kernel_rfl
theorem dT126 : dT Tryz.prog 126 = .other := by kernel_rfl
theorem sT126 : szT Tryz.prog 126 = 1 := by kernel_rfl
theorem bT126 : byT Tryz.prog 126 = 8 := by kernel_rfl
theorem zT126 : zT Tryz.prog 126 = some [.nilf] := by kernel_rfl
theorem eql1T126 {f : Nat} {c : List (Nat × Nat × Nat)}  : abin Tryz.prog .eql 126 (.c (.f f c)) (.c .nilf) = some (.c (.b false)) := by kernel_rfl
theorem eql2T126 : abin Tryz.prog .eql 126 (.c .nilf) (.c .nilf) = some (.c (.b true)) := by kernel_rfl
theorem neq1T126 {f : Nat} {c : List (Nat × Nat × Nat)}  : abin Tryz.prog .neq 126 (.c (.f f c)) (.c .nilf) = some (.c (.b true)) := by kernel_rfl
theorem neq2T126 : abin Tryz.prog .neq 126 (.c .nilf) (.c .nilf) = some (.c (.b false)) := by kernel_rfl
theorem dT127 : dT Tryz.prog 127 = .other := by kernel_rfl
theorem sT127 : szT Tryz.prog 127 = 1 := by kernel_rfl
theorem bT127 : byT Tryz.prog 127 = 8 := by kernel_rfl
theorem zT127 : zT Tryz.prog 127 = some [.nilf] := by kernel_rfl
theorem eql1T127 {f : Nat} {c : List (Nat × Nat × Nat)}  : abin Tryz.prog .eql 127 (.c (.f f c)) (.c .nilf) = some (.c (.b false)) := by kernel_rfl
theorem eql2T127 : abin Tryz.prog .eql 127 (.c .nilf) (.c .nilf) = some (.c (.b true)) := by kernel_rfl
theorem neq1T127 {f : Nat} {c : List (Nat × Nat × Nat)}  : abin Tryz.prog .neq 127 (.c (.f f c)) (.c .nilf) = some (.c (.b true)) := by kernel_rfl
theorem neq2T127 : abin Tryz.prog .neq 127 (.c .nilf) (.c .nilf) = some (.c (.b false)) := by kernel_rfl
theorem dT128 : dT Tryz.prog 128 = .arr 64 5 := by kernel_rfl
theorem sT128 : szT Tryz.prog 128 = 64 := by kernel_rfl
theorem bT128 : byT Tryz.prog 128 = 64 := by kernel_rfl
theorem zT128 : zT Tryz.prog 128 = some (zRow 64 (.k .u8 (0))) := by kernel_rfl
theorem dT129 : dT Tryz.prog 129 = .arr 64 5 := by kernel_rfl
theorem sT129 : szT Tryz.prog 129 = 64 := by kernel_rfl
theorem bT129 : byT Tryz.prog 129 = 64 := by kernel_rfl
theorem zT129 : zT Tryz.prog 129 = some (zRow 64 (.k .u8 (0))) := by kernel_rfl
theorem dT130 : dT Tryz.prog 130 = .st [(0, 3), (1, 3)] := by kernel_rfl
theorem sT130 : szT Tryz.prog 130 = 2 := by kernel_rfl
theorem bT130 : byT Tryz.prog 130 = 16 := by kernel_rfl
theorem zT130 : zT Tryz.prog 130 = some [.i 0, .i 0] := by kernel_rfl
theorem dT131 : dT Tryz.prog 131 = .st [(0, 3), (1, 3)] := by kernel_rfl
theorem sT131 : szT Tryz.prog 131 = 2 := by kernel_rfl
theorem bT131 : byT Tryz.prog 131 = 16 := by kernel_rfl
theorem zT131 : zT Tryz.prog 131 = some [.i 0, .i 0] := by kernel_rfl
theorem gT131 : tagsT Tryz.prog 12 131 = some [.n, .n] := by kernel_rfl
theorem eqT131 {a b : List Sc} : abin Tryz.prog .eql 131 (.g a) (.g b) = (csEq [.n, .n] a b).bind (eqU .eql) := ab_g_eql _ (by simp only [dT131, D.agg]) gT131
theorem neT131 {a b : List Sc} : abin Tryz.prog .neq 131 (.g a) (.g b) = (csEq [.n, .n] a b).bind (eqU .neq) := ab_g_neq _ (by simp only [dT131, D.agg]) gT131
theorem dT132 : dT Tryz.prog 132 = .other := by kernel_rfl
theorem sT132 : szT Tryz.prog 132 = 1 := by kernel_rfl
theorem bT132 : byT Tryz.prog 132 = 8 := by kernel_rfl
theorem zT132 : zT Tryz.prog 132 = some [.nilf] := by kernel_rfl
theorem eql1T132 {f : Nat} {c : List (Nat × Nat × Nat)}  : abin Tryz.prog .eql 132 (.c (.f f c)) (.c .nilf) = some (.c (.b false)) := by kernel_rfl
theorem eql2T132 : abin Tryz.prog .eql 132 (.c .nilf) (.c .nilf) = some (.c (.b true)) := by kernel_rfl
theorem neq1T132 {f : Nat} {c : List (Nat × Nat × Nat)}  : abin Tryz.prog .neq 132 (.c (.f f c)) (.c .nilf) = some (.c (.b true)) := by kernel_rfl
theorem neq2T132 : abin Tryz.prog .neq 132 (.c .nilf) (.c .nilf) = some (.c (.b false)) := by kernel_rfl
theorem dT133 : dT Tryz.prog 133 = .other := by kernel_rfl
theorem sT133 : szT Tryz.prog 133 = 1 := by kernel_rfl
theorem bT133 : byT Tryz.prog 133 = 8 := by kernel_rfl
theorem zT133 : zT Tryz.prog 133 = some [.nilf] := by kernel_rfl
theorem eql1T133 {f : Nat} {c : List (Nat × Nat × Nat)}  : abin Tryz.prog .eql 133 (.c (.f f c)) (.c .nilf) = some (.c (.b false)) := by kernel_rfl
theorem eql2T133 : abin Tryz.prog .eql 133 (.c .nilf) (.c .nilf) = some (.c (.b true)) := by kernel_rfl
theorem neq1T133 {f : Nat} {c : List (Nat × Nat × Nat)}  : abin Tryz.prog .neq 133 (.c (.f f c)) (.c .nilf) = some (.c (.b true)) := by kernel_rfl
theorem neq2T133 : abin Tryz.prog .neq 133 (.c .nilf) (.c .nilf) = some (.c (.b false)) := by kernel_rfl
theorem dT134 : dT Tryz.prog 134 = .other := by kernel_rfl
theorem sT134 : szT Tryz.prog 134 = 1 := by kernel_rfl
theorem bT134 : byT Tryz.prog 134 = 8 := by kernel_rfl
theorem zT134 : zT Tryz.prog 134 = some [.nilf] := by kernel_rfl
theorem eql1T134 {f : Nat} {c : List (Nat × Nat × Nat)}  : abin Tryz.prog .eql 134 (.c (.f f c)) (.c .nilf) = some (.c (.b false)) := by kernel_rfl
theorem eql2T134 : abin Tryz.prog .eql 134 (.c .nilf) (.c .nilf) = some (.c (.b true)) := by kernel_rfl
theorem neq1T134 {f : Nat} {c : List (Nat × Nat × Nat)}  : abin Tryz.prog .neq 134 (.c (.f f c)) (.c .nilf) = some (.c (.b true)) := by kernel_rfl
theorem neq2T134 : abin Tryz.prog .neq 134 (.c .nilf) (.c .nilf) = some (.c (.b false)) := by kernel_rfl
theorem dT136 : dT Tryz.prog 136 = .other := by kernel_rfl
theorem sT136 : szT Tryz.prog 136 = 1 := by kernel_rfl
theorem bT136 : byT Tryz.prog 136 = 8 := by kernel_rfl
theorem zT136 : zT Tryz.prog 136 = some [.nilf] := by kernel_rfl
theorem eql1T136 {f : Nat} {c : List (Nat × Nat × Nat)}  : abin Tryz.prog .eql 136 (.c (.f f c)) (.c .nilf) = some (.c (.b false)) := by kernel_rfl
theorem eql2T136 : abin Tryz.prog .eql 136 (.c .nilf) (.c .nilf) = some (.c (.b true)) := by kernel_rfl
theorem neq1T136 {f : Nat} {c : List (Nat × Nat × Nat)}  : abin Tryz.prog .neq 136 (.c (.f f c)) (.c .nilf) = some (.c (.b true)) := by kernel_rfl
theorem neq2T136 : abin Tryz.prog .neq 136 (.c .nilf) (.c .nilf) = some (.c (.b false)) := by kernel_rfl
theorem dT137 : dT Tryz.prog 137 = .other := by kernel_rfl
theorem sT137 : szT Tryz.prog 137 = 1 := by kernel_rfl
theorem bT137 : byT Tryz.prog 137 = 8 := by kernel_rfl
theorem zT137 : zT Tryz.prog 137 = some [.nilf] := by kernel_rfl
theorem eql1T137 {f : Nat} {c : List (Nat × Nat × Nat)}  : abin Tryz.prog .eql 137 (.c (.f f c)) (.c .nilf) = some (.c (.b false)) := by kernel_rfl
theorem eql2T137 : abin Tryz.prog .eql 137 (.c .nilf) (.c .nilf) = some (.c (.b true)) := by kernel_rfl
theorem neq1T137 {f : Nat} {c : List (Nat × Nat × Nat)}  : abin Tryz.prog .neq 137 (.c (.f f c)) (.c .nilf) = some (.c (.b true)) := by kernel_rfl
theorem neq2T137 : abin Tryz.prog .neq 137 (.c .nilf) (.c .nilf) = some (.c (.b false)) := by kernel_rfl
theorem dT138 : dT Tryz.prog 138 = .other := by kernel_rfl
theorem sT138 : szT Tryz.prog 138 = 1 := by kernel_rfl
theorem bT138 : byT Tryz.prog 138 = 8 := by kernel_rfl
theorem zT138 : zT Tryz.prog 138 = some [.nilf] := by kernel_rfl
theorem eql1T138 {f : Nat} {c : List (Nat × Nat × Nat)}  : abin Tryz.prog .eql 138 (.c (.f f c)) (.c .nilf) = some (.c (.b false)) := by kernel_rfl
theorem eql2T138 : abin Tryz.prog .eql 138 (.c .nilf) (.c .nilf) = some (.c (.b true)) := by kernel_rfl
theorem neq1T138 {f : Nat} {c : List (Nat × Nat × Nat)}  : abin Tryz.prog .neq 138 (.c (.f f c)) (.c .nilf) = some (.c (.b true)) := by kernel_rfl
theorem neq2T138 : abin Tryz.prog .neq 138 (.c .nilf) (.c .nilf) = some (.c (.b false)) := by kernel_rfl
theorem dT139 : dT Tryz.prog 139 = .int .u64 := by kernel_rfl
theorem sT139 : szT Tryz.prog 139 = 1 := by kernel_rfl
theorem bT139 : byT Tryz.prog 139 = 8 := by kernel_rfl
theorem zT139 : zT Tryz.prog 139 = some [.u 0#64] := by kernel_rfl
theorem dT140 : dT Tryz.prog 140 = .other := by kernel_rfl
theorem sT140 : szT Tryz.prog 140 = 1 := by kernel_rfl
theorem bT140 : byT Tryz.prog 140 = 8 := by kernel_rfl
theorem zT140 : zT Tryz.prog 140 = some [.nilf] := by kernel_rfl
theorem eql1T140 {f : Nat} {c : List (Nat × Nat × Nat)}  : abin Tryz.prog .eql 140 (.c (.f f c)) (.c .nilf) = some (.c (.b false)) := by kernel_rfl
theorem eql2T140 : abin Tryz.prog .eql 140 (.c .nilf) (.c .nilf) = some (.c (.b true)) := by kernel_rfl
theorem neq1T140 {f : Nat} {c : List (Nat × Nat × Nat)}  : abin Tryz.prog .neq 140 (.c (.f f c)) (.c .nilf) = some (.c (.b true)) := by kernel_rfl
theorem neq2T140 : abin Tryz.prog .neq 140 (.c .nilf) (.c .nilf) = some (.c (.b false)) := by kernel_rfl
theorem dT142 : dT Tryz.prog 142 = .other := by kernel_rfl
theorem sT142 : szT Tryz.prog 142 = 1 := by kernel_rfl
theorem bT142 : byT Tryz.prog 142 = 8 := by kernel_rfl
theorem zT142 : zT Tryz.prog 142 = some [.nilf] := by kernel_rfl
theorem eql1T142 {f : Nat} {c : List (Nat × Nat × Nat)}  : abin Tryz.prog .eql 142 (.c (.f f c)) (.c .nilf) = some (.c (.b false)) := by kernel_rfl
theorem eql2T142 : abin Tryz.prog .eql 142 (.c .nilf) (.c .nilf) = some (.c (.b true)) := by kernel_rfl
theorem neq1T142 {f : Nat} {c : List (Nat × Nat × Nat)}  : abin Tryz.prog .neq 142 (.c (.f f c)) (.c .nilf) = some (.c (.b true)) := by kernel_rfl
theorem neq2T142 : abin Tryz.prog .neq 142 (.c .nilf) (.c .nilf) = some (.c (.b false)) := by kernel_rfl
theorem dT143 : dT Tryz.prog 143 = .other := by kernel_rfl
theorem sT143 : szT Tryz.prog 143 = 1 := by kernel_rfl
theorem bT143 : byT Tryz.prog 143 = 8 := by kernel_rfl
theorem zT143 : zT Tryz.prog 143 = some [.nilf] := by kernel_rfl
theorem eql1T143 {f : Nat} {c : List (Nat × Nat × Nat)}  : abin Tryz.prog .eql 143 (.c (.f f c)) (.c .nilf) = some (.c (.b false)) := by kernel_rfl
theorem eql2T143 : abin Tryz.prog .eql 143 (.c .nilf) (.c .nilf) = some (.c (.b true)) := by kernel_rfl
theorem neq1T143 {f : Nat} {c : List (Nat × Nat × Nat)}  : abin Tryz.prog .neq 143 (.c (.f f c)) (.c .nilf) = some (.c (.b true)) := by kernel_rfl
theorem neq2T143 : abin Tryz.prog .neq 143 (.c .nilf) (.c .nilf) = some (.c (.b false)) := by kernel_rfl
theorem dT144 : dT Tryz.prog 144 = .other := by kernel_rfl
theorem sT144 : szT Tryz.prog 144 = 1 := by kernel_rfl
theorem bT144 : byT Tryz.prog 144 = 8 := by kernel_rfl
theorem zT144 : zT Tryz.prog 144 = some [.nilf] := by kernel_rfl
theorem eql1T144 {f : Nat} {c : List (Nat × Nat × Nat)}  : abin Tryz.prog .eql 144 (.c (.f f c)) (.c .nilf) = some (.c (.b false)) := by kernel_rfl
theorem eql2T144 : abin Tryz.prog .eql 144 (.c .nilf) (.c .nilf) = some (.c (.b true)) := by kernel_rfl
theorem neq1T144 {f : Nat} {c : List (Nat × Nat × Nat)}  : abin Tryz.prog .neq 144 (.c (.f f c)) (.c .nilf) = some (.c (.b true)) := by kernel_rfl
theorem neq2T144 : abin Tryz.prog .neq 144 (.c .nilf) (.c .nilf) = some (.c (.b false)) := by kernel_rfl
theorem dT145 : dT Tryz.prog 145 = .other := by kernel_rfl
theorem sT145 : szT Tryz.prog 145 = 1 := by kernel_rfl
theorem bT145 : byT Tryz.prog 145 = 8 := by kernel_rfl
theorem zT145 : zT Tryz.prog 145 = some [.nilf] := by kernel_rfl
theorem eql1T145 {f : Nat} {c : List (Nat × Nat × Nat)}  : abin Tryz.prog .eql 145 (.c (.f f c)) (.c .nilf) = some (.c (.b false)) := by kernel_rfl
theorem eql2T145 : abin Tryz.prog .eql 145 (.c .nilf) (.c .nilf) = some (.c (.b true)) := by kernel_rfl
theorem neq1T145 {f : Nat} {c : List (Nat × Nat × Nat)}  : abin Tryz.prog .neq 145 (.c (.f f c)) (.c .nilf) = some (.c (.b true)) := by kernel_rfl
theorem neq2T145 : abin Tryz.prog .neq 145 (.c .nilf) (.c .nilf) = some (.c (.b false)) := by kernel_rfl
theorem dT146 : dT Tryz.prog 146 = .other := by kernel_rfl
theorem sT146 : szT Tryz.prog 146 = 1 := by kernel_rfl
theorem bT146 : byT Tryz.prog 146 = 8 := by kernel_rfl
theorem zT146 : zT Tryz.prog 146 = some [.nilf] := by kernel_rfl
theorem eql1T146 {f : Nat} {c : List (Nat × Nat × Nat)}  : abin Tryz.prog .eql 146 (.c (.f f c)) (.c .nilf) = some (.c (.b false)) := by kernel_rfl
theorem eql2T146 : abin Tryz.prog .eql 146 (.c .nilf) (.c .nilf) = some (.c (.b true)) := by kernel_rfl
theorem neq1T146 {f : Nat} {c : List (Nat × Nat × Nat)}  : abin Tryz.prog .neq 146 (.c (.f f c)) (.c .nilf) = some (.c (.b true)) := by kernel_rfl
theorem neq2T146 : abin Tryz.prog .neq 146 (.c .nilf) (.c .nilf) = some (.c (.b false)) := by kernel_rfl
theorem dT147 : dT Tryz.prog 147 = .other := by kernel_rfl
theorem sT147 : szT Tryz.prog 147 = 1 := by kernel_rfl
theorem bT147 : byT Tryz.prog 147 = 8 := by kernel_rfl
theorem zT147 : zT Tryz.prog 147 = some [.nilf] := by kernel_rfl
theorem eql1T147 {f : Nat} {c : List (Nat × Nat × Nat)}  : abin Tryz.prog .eql 147 (.c (.f f c)) (.c .nilf) = some (.c (.b false)) := by kernel_rfl
theorem eql2T147 : abin Tryz.prog .eql 147 (.c .nilf) (.c .nilf) = some (.c (.b true)) := by kernel_rfl
theorem neq1T147 {f : Nat} {c : List (Nat × Nat × Nat)}  : abin Tryz.prog .neq 147 (.c (.f f c)) (.c .nilf) = some (.c (.b true)) := by kernel_rfl
theorem neq2T147 : abin Tryz.prog .neq 147 (.c .nilf) (.c .nilf) = some (.c (.b false)) := by kernel_rfl
theorem dT148 : dT Tryz.prog 148 = .other := by kernel_rfl
theorem sT148 : szT Tryz.prog 148 = 1 := by kernel_rfl
theorem bT148 : byT Tryz.prog 148 = 8 := by kernel_rfl
theorem zT148 : zT Tryz.prog 148 = some [.nilf] := by kernel_rfl
theorem eql1T148 {f : Nat} {c : List (Nat × Nat × Nat)}  : abin Tryz.prog .eql 148 (.c (.f f c)) (.c .nilf) = some (.c (.b false)) := by kernel_rfl
theorem eql2T148 : abin Tryz.prog .eql 148 (.c .nilf) (.c .nilf) = some (.c (.b true)) := by kernel_rfl
theorem neq1T148 {f : Nat} {c : List (Nat × Nat × Nat)}  : abin Tryz.prog .neq 148 (.c (.f f c)) (.c .nilf) = some (.c (.b true)) := by kernel_rfl
theorem neq2T148 : abin Tryz.prog .neq 148 (.c .nilf) (.c .nilf) = some (.c (.b false)) := by kernel_rfl
theorem dT149 : dT Tryz.prog 149 = .other := by kernel_rfl
theorem sT149 : szT Tryz.prog 149 = 1 := by kernel_rfl
theorem bT149 : byT Tryz.prog 149 = 8 := by kernel_rfl
theorem zT149 : zT Tryz.prog 149 = some [.nilf] := by kernel_rfl
theorem eql1T149 {f : Nat} {c : List (Nat × Nat × Nat)}  : abin Tryz.prog .eql 149 (.c (.f f c)) (.c .nilf) = some (.c (.b false)) := by kernel_rfl
theorem eql2T149 : abin Tryz.prog .eql 149 (.c .nilf) (.c .nilf) = some (.c (.b true)) := by kernel_rfl
theorem neq1T149 {f : Nat} {c : List (Nat × Nat × Nat)}  : abin Tryz.prog .neq 149 (.c (.f f c)) (.c .nilf) = some (.c (.b true)) := by kernel_rfl
theorem neq2T149 : abin Tryz.prog .neq 149 (.c .nilf) (.c .nilf) = some (.c (.b false)) := by kernel_rfl
theorem dT150 : dT Tryz.prog 150 = .sl 9 := by kernel_rfl
theorem sT150 : szT Tryz.prog 150 = 1 := by kernel_rfl
theorem bT150 : byT Tryz.prog 150 = 24 := by kernel_rfl
theorem zT150 : zT Tryz.prog 150 = some [.nils] := by kernel_rfl
theorem eql1T150 {a b c n : Nat}  : abin Tryz.prog .eql 150 (.c (.sl a b c n)) (.c .nils) = if n = 0 then some (.c .qq) else some (.c (.b false)) := by kernel_rfl
theorem eql2T150 : abin Tryz.prog .eql 150 (.c .nils) (.c .nils) = some (.c (.b true)) := by kernel_rfl
theorem neq1T150 {a b c n : Nat}  : abin Tryz.prog .neq 150 (.c (.sl a b c n)) (.c .nils) = if n = 0 then some (.c .qq) else some (.c (.b true)) := by kernel_rfl
theorem neq2T150 : abin Tryz.prog .neq 150 (.c .nils) (.c .nils) = some (.c (.b false)) := by kernel_rfl
theorem dT151 : dT Tryz.prog 151 = .other := by kernel_rfl
theorem sT151 : szT Tryz.prog 151 = 1 := by kernel_rfl
theorem bT151 : byT Tryz.prog 151 = 8 := by kernel_rfl
theorem zT151 : zT Tryz.prog 151 = some [.nilf] := by kernel_rfl
theorem eql1T151 {f : Nat} {c : List (Nat × Nat × Nat)}  : abin Tryz.prog .eql 151 (.c (.f f c)) (.c .nilf) = some (.c (.b false)) := by kernel_rfl
theorem eql2T151 : abin Tryz.prog .eql 151 (.c .nilf) (.c .nilf) = some (.c (.b true)) := by kernel_rfl
theorem neq1T151 {f : Nat} {c : List (Nat × Nat × Nat)}  : abin Tryz.prog .neq 151 (.c (.f f c)) (.c .nilf) = some (.c (.b true)) := by kernel_rfl
theorem neq2T151 : abin Tryz.prog .neq 151 (.c .nilf) (.c .nilf) = some (.c (.b false)) := by kernel_rfl
theorem dT152 : dT Tryz.prog 152 = .other := by kernel_rfl
theorem sT152 : szT Tryz.prog 152 = 1 := by kernel_rfl
theorem bT152 : byT Tryz.prog 152 = 8 := by kernel_rfl
theorem zT152 : zT Tryz.prog 152 = some [.nilf] := by kernel_rfl
theorem eql1T152 {f : Nat} {c : List (Nat × Nat × Nat)}  : abin Tryz.prog .eql 152 (.c (.f f c)) (.c .nilf) = some (.c (.b false)) := by kernel_rfl
theorem eql2T152 : abin Tryz.prog .eql 152 (.c .nilf) (.c .nilf) = some (.c (.b true)) := by kernel_rfl
theorem neq1T152 {f : Nat} {c : List (Nat × Nat × Nat)}  : abin Tryz.prog .neq 152 (.c (.f f c)) (.c .nilf) = some (.c (.b true)) := by kernel_rfl
theorem neq2T152 : abin Tryz.prog .neq 152 (.c .nilf) (.c .nilf) = some (.c (.b false)) := by kernel_rfl
theorem dT154 : dT Tryz.prog 154 = .other := by kernel_rfl
theorem sT154 : szT Tryz.prog 154 = 1 := by kernel_rfl
theorem bT154 : byT Tryz.prog 154 = 8 := by kernel_rfl
theorem zT154 : zT Tryz.prog 154 = some [.nilf] := by kernel_rfl
theorem eql1T154 {f : Nat} {c : List (Nat × Nat × Nat)}  : abin Tryz.prog .eql 154 (.c (.f f c)) (.c .nilf) = some (.c (.b false)) := by kernel_rfl
theorem eql2T154 : abin Tryz.prog .eql 154 (.c .nilf) (.c .nilf) = some (.c (.b true)) := by kernel_rfl
theorem neq1T154 {f : Nat} {c : List (Nat × Nat × Nat)}  : abin Tryz.prog .neq 154 (.c (.f f c)) (.c .nilf) = some (.c (.b true)) := by kernel_rfl
theorem neq2T154 : abin Tryz.prog .neq 154 (.c .nilf) (.c .nilf) = some (.c (.b false)) := by kernel_rfl
theorem dT155 : dT Tryz.prog 155 = .other := by kernel_rfl
theorem sT155 : szT Tryz.prog 155 = 1 := by kernel_rfl
theorem bT155 : byT Tryz.prog 155 = 8 := by kernel_rfl
theorem zT155 : zT Tryz.prog 155 = some [.nilf] := by kernel_rfl
theorem eql1T155 {f : Nat} {c : List (Nat × Nat × Nat)}  : abin Tryz.prog .eql 155 (.c (.f f c)) (.c .nilf) = some (.c (.b false)) := by kernel_rfl
theorem eql2T155 : abin Tryz.prog .eql 155 (.c .nilf) (.c .nilf) = some (.c (.b true)) := by kernel_rfl
theorem neq1T155 {f : Nat} {c : List (Nat × Nat × Nat)}  : abin Tryz.prog .neq 155 (.c (.f f c)) (.c .nilf) = some (.c (.b true)) := by kernel_rfl
theorem neq2T155 : abin Tryz.prog .neq 155 (.c .nilf) (.c .nilf) = some (.c (.b false)) := by kernel_rfl
theorem dT156 : dT Tryz.prog 156 = .other := by kernel_rfl
theorem sT156 : szT Tryz.prog 156 = 1 := by kernel_rfl
theorem bT156 : byT Tryz.prog 156 = 8 := by kernel_rfl
theorem zT156 : zT Tryz.prog 156 = some [.nilf] := by kernel_rfl
theorem eql1T156 {f : Nat} {c : List (Nat × Nat × Nat)}  : abin Tryz.prog .eql 156 (.c (.f f c)) (.c .nilf) = some (.c (.b false)) := by kernel_rfl
theorem eql2T156 : abin Tryz.prog .eql 156 (.c .nilf) (.c .nilf) = some (.c (.b true)) := by kernel_rfl
theorem neq1T156 {f : Nat} {c : List (Nat × Nat × Nat)}  : abin Tryz.prog .neq 156 (.c (.f f c)) (.c .nilf) = some (.c (.b true)) := by kernel_rfl
theorem neq2T156 : abin Tryz.prog .neq 156 (.c .nilf) (.c .nilf) = some (.c (.b false)) := by kernel_rfl
theorem dT157 : dT Tryz.prog 157 = .other := by kernel_rfl
theorem sT157 : szT Tryz.prog 157 = 1 := by kernel_rfl
theorem bT157 : byT Tryz.prog 157 = 8 := by kernel_rfl
theorem zT157 : zT Tryz.prog 157 = some [.nilf] := by kernel_rfl
theorem eql1T157 {f : Nat} {c : List (Nat × Nat × Nat)}  : abin Tryz.prog .eql 157 (.c (.f f c)) (.c .nilf) = some (.c (.b false)) := by kernel_rfl
theorem eql2T157 : abin Tryz.prog .eql 157 (.c .nilf) (.c .nilf) = some (.c (.b true)) := by kernel_rfl
theorem neq1T157 {f : Nat} {c : List (Nat × Nat × Nat)}  : abin Tryz.prog .neq 157 (.c (.f f c)) (.c .nilf) = some (.c (.b true)) := by kernel_rfl
theorem neq2T157 : abin Tryz.prog .neq 157 (.c .nilf) (.c .nilf) = some (.c (.b false)) := by kernel_rfl
theorem dT158 : dT Tryz.prog 158 = .other := by kernel_rfl
theorem sT158 : szT Tryz.prog 158 = 1 := by kernel_rfl
theorem bT158 : byT Tryz.prog 158 = 8 := by kernel_rfl
theorem zT158 : zT Tryz.prog 158 = some [.nilf] := by kernel_rfl
theorem eql1T158 {f : Nat} {c : List (Nat × Nat × Nat)}  : abin Tryz.prog .eql 158 (.c (.f f c)) (.c .nilf) = some (.c (.b false)) := by kernel_rfl
theorem eql2T158 : abin Tryz.prog .eql 158 (.c .nilf) (.c .nilf) = some (.c (.b true)) := by kernel_rfl
theorem neq1T158 {f : Nat} {c : List (Nat × Nat × Nat)}  : abin Tryz.prog .neq 158 (.c (.f f c)) (.c .nilf) = some (.c (.b true)) := by kernel_rfl
theorem neq2T158 : abin Tryz.prog .neq 158 (.c .nilf) (.c .nilf) = some (.c (.b false)) := by kernel_rfl
theorem dT159 : dT Tryz.prog 159 = .int .i64 := by kernel_rfl
theorem sT159 : szT Tryz.prog 159 = 1 := by kernel_rfl
theorem bT159 : byT Tryz.prog 159 = 8 := by kernel_rfl
theorem zT159 : zT Tryz.prog 159 = some [.i 0] := by kernel_rfl
theorem dT161 : dT Tryz.prog 161 = .other := by kernel_rfl
theorem sT161 : szT Tryz.prog 161 = 1 := by kernel_rfl
theorem bT161 : byT Tryz.prog 161 = 8 := by kernel_rfl
theorem zT161 : zT Tryz.prog 161 = some [.nilf] := by kernel_rfl
theorem eql1T161 {f : Nat} {c : List (Nat × Nat × Nat)}  : abin Tryz.prog .eql 161 (.c (.f f c)) (.c .nilf) = some (.c (.b false)) := by kernel_rfl
theorem eql2T161 : abin Tryz.prog .eql 161 (.c .nilf) (.c .nilf) = some (.c (.b true)) := by kernel_rfl
theorem neq1T161 {f : Nat} {c : List (Nat × Nat × Nat)}  : abin Tryz.prog .neq 161 (.c (.f f c)) (.c .nilf) = some (.c (.b true)) := by kernel_rfl
theorem neq2T161 : abin Tryz.prog .neq 161 (.c .nilf) (.c .nilf) = some (.c (.b false)) := by kernel_rfl
theorem dT162 : dT Tryz.prog 162 = .other := by kernel_rfl
theorem sT162 : szT Tryz.prog 162 = 1 := by kernel_rfl
theorem bT162 : byT Tryz.prog 162 = 8 := by kernel_rfl
theorem zT162 : zT Tryz.prog 162 = some [.nilf] := by kernel_rfl
theorem eql1T162 {f : Nat} {c : List (Nat × Nat × Nat)}  : abin Tryz.prog .eql 162 (.c (.f f c)) (.c .nilf) = some (.c (.b false)) := by kernel_rfl
theorem eql2T162 : abin Tryz.prog .eql 162 (.c .nilf) (.c .nilf) = some (.c (.b true)) := by kernel_rfl
theorem neq1T162 {f : Nat} {c : List (Nat × Nat × Nat)}  : abin Tryz.prog .neq 162 (.c (.f f c)) (.c .nilf) = some (.c (.b true)) := by kernel_rfl
theorem neq2T162 : abin Tryz.prog .neq 162 (.c .nilf) (.c .nilf) = some (.c (.b false)) := by kernel_rfl
theorem dT163 : dT Tryz.prog 163 = .other := by kernel_rfl
theorem sT163 : szT Tryz.prog 163 = 1 := by kernel_rfl
theorem bT163 : byT Tryz.prog 163 = 8 := by kernel_rfl
theorem zT163 : zT Tryz.prog 163 = some [.nilf] := by kernel_rfl
theorem eql1T163 {f : Nat} {c : List (Nat × Nat × Nat)}  : abin Tryz.prog .eql 163 (.c (.f f c)) (.c .nilf) = some (.c (.b false)) := by kernel_rfl
theorem eql2T163 : abin Tryz.prog .eql 163 (.c .nilf) (.c .nilf) = some (.c (.b true)) := by kernel_rfl
theorem neq1T163 {f : Nat} {c : List (Nat × Nat × Nat)}  : abin Tryz.prog .neq 163 (.c (.f f c)) (.c .nilf) = some (.c (.b true)) := by kernel_rfl
theorem neq2T163 : abin Tryz.prog .neq 163 (.c .nilf) (.c .nilf) = some (.c (.b false)) := by kernel_rfl
theorem dT165 : dT Tryz.prog 165 = .other := by kernel_rfl
theorem sT165 : szT Tryz.prog 165 = 1 := by kernel_rfl
theorem bT165 : byT Tryz.prog 165 = 8 := by kernel_rfl
theorem zT165 : zT Tryz.prog 165 = some [.nilf] := by kernel_rfl
theorem eql1T165 {f : Nat} {c : List (Nat × Nat × Nat)}  : abin Tryz.prog .eql 165 (.c (.f f c)) (.c .nilf) = some (.c (.b false)) := by kernel_rfl
theorem eql2T165 : abin Tryz.prog .eql 165 (.c .nilf) (.c .nilf) = some (.c (.b true)) := by kernel_rfl
theorem neq1T165 {f : Nat} {c : List (Nat × Nat × Nat)}  : abin Tryz.prog .neq 165 (.c (.f f c)) (.c .nilf) = some (.c (.b true)) := by kernel_rfl
theorem neq2T165 : abin Tryz.prog .neq 165 (.c .nilf) (.c .nilf) = some (.c (.b false)) := by kernel_rfl
theorem dT166 : dT Tryz.prog 166 = .other := by kernel_rfl
theorem sT166 : szT Tryz.prog 166 = 1 := by kernel_rfl
theorem bT166 : byT Tryz.prog 166 = 8 := by kernel_rfl
theorem zT166 : zT Tryz.prog 166 = some [.nilf] := by kernel_rfl
theorem eql1T166 {f : Nat} {c : List (Nat × Nat × Nat)}  : abin Tryz.prog .eql 166 (.c (.f f c)) (.c .nilf) = some (.c (.b false)) := by kernel_rfl
theorem eql2T166 : abin Tryz.prog .eql 166 (.c .nilf) (.c .nilf) = some (.c (.b true)) := by kernel_rfl
theorem neq1T166 {f : Nat} {c : List (Nat × Nat × Nat)}  : abin Tryz.prog .neq 166 (.c (.f f c)) (.c .nilf) = some (.c (.b true)) := by kernel_rfl
theorem neq2T166 : abin Tryz.prog .neq 166 (.c .nilf) (.c .nilf) = some (.c (.b false)) := by kernel_rfl
theorem dT167 : dT Tryz.prog 167 = .int .u32 := by kernel_rfl
theorem sT167 : szT Tryz.prog 167 = 1 := by kernel_rfl
theorem bT167 : byT Tryz.prog 167 = 4 := by kernel_rfl
theorem zT167 : zT Tryz.prog 167 = some [.k .u32 (0)] := by kernel_rfl
theorem dT168 : dT Tryz.prog 168 = .other := by kernel_rfl
theorem sT168 : szT Tryz.prog 168 = 1 := by kernel_rfl
theorem bT168 : byT Tryz.prog 168 = 8 := by kernel_rfl
theorem zT168 : zT Tryz.prog 168 = some [.nilf] := by kernel_rfl
theorem eql1T168 {f : Nat} {c : List (Nat × Nat × Nat)}  : abin Tryz.prog .eql 168 (.c (.f f c)) (.c .nilf) = some (.c (.b false)) := by kernel_rfl
theorem eql2T168 : abin Tryz.prog .eql 168 (.c .nilf) (.c .nilf) = some (.c (.b true)) := by kernel_rfl
theorem neq1T168 {f : Nat} {c : List (Nat × Nat × Nat)}  : abin Tryz.prog .neq 168 (.c (.f f c)) (.c .nilf) = some (.c (.b true)) := by kernel_rfl
theorem neq2T168 : abin Tryz.prog .neq 168 (.c .nilf) (.c .nilf) = some (.c (.b false)) := by kernel_rfl
theorem dT169 : dT Tryz.prog 169 = .other := by kernel_rfl
theorem sT169 : szT Tryz.prog 169 = 1 := by kernel_rfl
theorem bT169 : byT Tryz.prog 169 = 8 := by kernel_rfl
theorem zT169 : zT Tryz.prog 169 = some [.nilf] := by kernel_rfl
theorem eql1T169 {f : Nat} {c : List (Nat × Nat × Nat)}  : abin Tryz.prog .eql 169 (.c (.f f c)) (.c .nilf) = some (.c (.b false)) := by kernel_rfl
theorem eql2T169 : abin Tryz.prog .eql 169 (.c .nilf) (.c .nilf) = some (.c (.b true)) := by kernel_rfl
theorem neq1T169 {f : Nat} {c : List (Nat × Nat × Nat)}  : abin Tryz.prog .neq 169 (.c (.f f c)) (.c .nilf) = some (.c (.b true)) := by kernel_rfl
theorem neq2T169 : abin Tryz.prog .neq 169 (.c .nilf) (.c .nilf) = some (.c (.b false)) := by kernel_rfl
theorem dT170 : dT Tryz.prog 170 = .int .u64 := by kernel_rfl
theorem sT170 : szT Tryz.prog 170 = 1 := by kernel_rfl
theorem bT170 : byT Tryz.prog 170 = 8 := by kernel_rfl
theorem zT170 : zT Tryz.prog 170 = some [.u 0#64] := by kernel_rfl
theorem dT171 : dT Tryz.prog 171 = .other := by kernel_rfl
theorem sT171 : szT Tryz.prog 171 = 1 := by kernel_rfl
theorem bT171 : byT Tryz.prog 171 = 8 := by kernel_rfl
theorem zT171 : zT Tryz.prog 171 = some [.nilf] := by kernel_rfl
theorem eql1T171 {f : Nat} {c : List (Nat × Nat × Nat)}  : abin Tryz.prog .eql 171 (.c (.f f c)) (.c .nilf) = some (.c (.b false)) := by kernel_rfl
theorem eql2T171 : abin Tryz.prog .eql 171 (.c .nilf) (.c .nilf) = some (.c (.b true)) := by kernel_rfl
theorem neq1T171 {f : Nat} {c : List (Nat × Nat × Nat)}  : abin Tryz.prog .neq 171 (.c (.f f c)) (.c .nilf) = some (.c (.b true)) := by kernel_rfl
theorem neq2T171 : abin Tryz.prog .neq 171 (.c .nilf) (.c .nilf) = some (.c (.b false)) := by kernel_rfl
theorem dT172 : dT Tryz.prog 172 = .other := by kernel_rfl
theorem sT172 : szT Tryz.prog 172 = 1 := by kernel_rfl
theorem bT172 : byT Tryz.prog 172 = 8 := by kernel_rfl
theorem zT172 : zT Tryz.prog 172 = some [.nilf] := by kernel_rfl
theorem eql1T172 {f : Nat} {c : List (Nat × Nat × Nat)}  : abin Tryz.prog .eql 172 (.c (.f f c)) (.c .nilf) = some (.c (.b false)) := by kernel_rfl
theorem eql2T172 : abin Tryz.prog .eql 172 (.c .nilf) (.c .nilf) = some (.c (.b true)) := by kernel_rfl
theorem neq1T172 {f : Nat} {c : List (Nat × Nat × Nat)}  : abin Tryz.prog .neq 172 (.c (.f f c)) (.c .nilf) = some (.c (.b true)) := by kernel_rfl
theorem neq2T172 : abin Tryz.prog .neq 172 (.c .nilf) (.c .nilf) = some (.c (.b false)) := by kernel_rfl
theorem dT173 : dT Tryz.prog 173 = .other := by kernel_rfl
theorem sT173 : szT Tryz.prog 173 = 1 := by kernel_rfl
theorem bT173 : byT Tryz.prog 173 = 8 := by kernel_rfl
theorem zT173 : zT Tryz.prog 173 = some [.nilf] := by kernel_rfl
theorem eql1T173 {f : Nat} {c : List (Nat × Nat × Nat)}  : abin Tryz.prog .eql 173 (.c (.f f c)) (.c .nilf) = some (.c (.b false)) := by kernel_rfl
theorem eql2T173 : abin Tryz.prog .eql 173 (.c .nilf) (.c .nilf) = some (.c (.b true)) := by kernel_rfl
theorem neq1T173 {f : Nat} {c : List (Nat × Nat × Nat)}  : abin Tryz.prog .neq 173 (.c (.f f c)) (.c .nilf) = some (.c (.b true)) := by kernel_rfl
theorem neq2T173 : abin Tryz.prog .neq 173 (.c .nilf) (.c .nilf) = some (.c (.b false)) := by kernel_rfl
theorem dT174 : dT Tryz.prog 174 = .ptr 3 := by kernel_rfl
theorem sT174 : szT Tryz.prog 174 = 1 := by kernel_rfl
theorem bT174 : byT Tryz.prog 174 = 8 := by kernel_rfl
theorem zT174 : zT Tryz.prog 174 = some [.nilp] := by kernel_rfl
theorem eql1T174 {a b c : Nat}  : abin Tryz.prog .eql 174 (.c (.p a b c)) (.c .nilp) = some (.c (.b false)) := by kernel_rfl
theorem eql2T174 : abin Tryz.prog .eql 174 (.c .nilp) (.c .nilp) = some (.c (.b true)) := by kernel_rfl
theorem neq1T174 {a b c : Nat}  : abin Tryz.prog .neq 174 (.c (.p a b c)) (.c .nilp) = some (.c (.b true)) := by kernel_rfl
theorem neq2T174 : abin Tryz.prog .neq 174 (.c .nilp) (.c .nilp) = some (.c (.b false)) := by kernel_rfl
theorem dT175 : dT Tryz.prog 175 = .other := by kernel_rfl
theorem sT175 : szT Tryz.prog 175 = 1 := by kernel_rfl
theorem bT175 : byT Tryz.prog 175 = 8 := by kernel_rfl
theorem zT175 : zT Tryz.prog 175 = some [.nilf] := by kernel_rfl
theorem eql1T175 {f : Nat} {c : List (Nat × Nat × Nat)}  : abin Tryz.prog .eql 175 (.c (.f f c)) (.c .nilf) = some (.c (.b false)) := by kernel_rfl
theorem eql2T175 : abin Tryz.prog .eql 175 (.c .nilf) (.c .nilf) = some (.c (.b true)) := by kernel_rfl
theorem neq1T175 {f : Nat} {c : List (Nat × Nat × Nat)}  : abin Tryz.prog .neq 175 (.c (.f f c)) (.c .nilf) = some (.c (.b true)) := by kernel_rfl
theorem neq2T175 : abin Tryz.prog .neq 175 (.c .nilf) (.c .nilf) = some (.c (.b false)) := by kernel_rfl
theorem dT176 : dT Tryz.prog 176 = .ptr 170 := by kernel_rfl
theorem sT176 : szT Tryz.prog 176 = 1 := by kernel_rfl
theorem bT176 : byT Tryz.prog 176 = 8 := by kernel_rfl
theorem zT176 : zT Tryz.prog 176 = some [.nilp] := by kernel_rfl
theorem eql1T176 {a b c : Nat}  : abin Tryz.prog .eql 176 (.c (.p a b c)) (.c .nilp) = some (.c (.b false)) := by kernel_rfl
theorem eql2T176 : abin Tryz.prog .eql 176 (.c .nilp) (.c .nilp) = some (.c (.b true)) := by kernel_rfl
theorem neq1T176 {a b c : Nat}  : abin Tryz.prog .neq 176 (.c (.p a b c)) (.c .nilp) = some (.c (.b true)) := by kernel_rfl
theorem neq2T176 : abin Tryz.prog .neq 176 (.c .nilp) (.c .nilp) = some (.c (.b false)) := by kernel_rfl
theorem dT177 : dT Tryz.prog 177 = .other := by kernel_rfl
theorem sT177 : szT Tryz.prog 177 = 1 := by kernel_rfl
theorem bT177 : byT Tryz.prog 177 = 8 := by kernel_rfl
theorem zT177 : zT Tryz.prog 177 = some [.nilf] := by kernel_rfl
theorem eql1T177 {f : Nat} {c : List (Nat × Nat × Nat)}  : abin Tryz.prog .eql 177 (.c (.f f c)) (.c .nilf) = some (.c (.b false)) := by kernel_rfl
theorem eql2T177 : abin Tryz.prog .eql 177 (.c .nilf) (.c .nilf) = some (.c (.b true)) := by kernel_rfl
theorem neq1T177 {f : Nat} {c : List (Nat × Nat × Nat)}  : abin Tryz.prog .neq 177 (.c (.f f c)) (.c .nilf) = some (.c (.b true)) := by kernel_rfl
theorem neq2T177 : abin Tryz.prog .neq 177 (.c .nilf) (.c .nilf) = some (.c (.b false)) := by kernel_rfl
theorem dT178 : dT Tryz.prog 178 = .other := by kernel_rfl
theorem sT178 : szT Tryz.prog 178 = 1 := by kernel_rfl
theorem bT178 : byT Tryz.prog 178 = 8 := by kernel_rfl
theorem zT178 : zT Tryz.prog 178 = some [.nilf] := by kernel_rfl
theorem eql1T178 {f : Nat} {c : List (Nat × Nat × Nat)}  : abin Tryz.prog .eql 178 (.c (.f f c)) (.c .nilf) = some (.c (.b false)) := by kernel_rfl
theorem eql2T178 : abin Tryz.prog .eql 178 (.c .nilf) (.c .nilf) = some (.c (.b true)) := by kernel_rfl
theorem neq1T178 {f : Nat} {c : List (Nat × Nat × Nat)}  : abin Tryz.prog .neq 178 (.c (.f f c)) (.c .nilf) = some (.c (.b true)) := by kernel_rfl
theorem neq2T178 : abin Tryz.prog .neq 178 (.c .nilf) (.c .nilf) = some (.c (.b false)) := by kernel_rfl
theorem dT186 : dT Tryz.prog 186 = .other := by kernel_rfl
theorem sT186 : szT Tryz.prog 186 = 1 := by kernel_rfl
theorem bT186 : byT Tryz.prog 186 = 8 := by kernel_rfl
theorem zT186 : zT Tryz.prog 186 = some [.nilf] := by kernel_rfl
theorem eql1T186 {f : Nat} {c : List (Nat × Nat × Nat)}  : abin Tryz.prog .eql 186 (.c (.f f c)) (.c .nilf) = some (.c (.b false)) := by kernel_rfl
theorem eql2T186 : abin Tryz.prog .eql 186 (.c .nilf) (.c .nilf) = some (.c (.b true)) := by kernel_rfl
theorem neq1T186 {f : Nat} {c : List (Nat × Nat × Nat)}  : abin Tryz.prog .neq 186 (.c (.f f c)) (.c .nilf) = some (.c (.b true)) := by kernel_rfl
theorem neq2T186 : abin Tryz.prog .neq 186 (.c .nilf) (.c .nilf) = some (.c (.b false)) := by kernel_rfl
theorem dT187 : dT Tryz.prog 187 = .ptr 5 := by kernel_rfl
theorem sT187 : szT Tryz.prog 187 = 1 := by kernel_rfl
theorem bT187 : byT Tryz.prog 187 = 8 := by kernel_rfl
theorem zT187 : zT Tryz.prog 187 = some [.nilp] := by kernel_rfl
theorem eql1T187 {a b c : Nat}  : abin Tryz.prog .eql 187 (.c (.p a b c)) (.c .nilp) = some (.c (.b false)) := by kernel_rfl
theorem eql2T187 : abin Tryz.prog .eql 187 (.c .nilp) (.c .nilp) = some (.c (.b true)) := by kernel_rfl
theorem neq1T187 {a b c : Nat}  : abin Tryz.prog .neq 187 (.c (.p a b c)) (.c .nilp) = some (.c (.b true)) := by kernel_rfl
theorem neq2T187 : abin Tryz.prog .neq 187 (.c .nilp) (.c .nilp) = some (.c (.b false)) := by kernel_rfl
theorem dT190 : dT Tryz.prog 190 = .st [(0, 12), (1, 12), (2, 167), (3, 184), (4, 5), (5, 5), (6, 185), (7, 186), (8, 187), (9, 188), (10, 189)] := by kernel_rfl
theorem sT190 : szT Tryz.prog 190 = 11 := by kernel_rfl
theorem bT190 : byT Tryz.prog 190 = 48 := by kernel_rfl
theorem zT190 : zT Tryz.prog 190 = some [.u 0#64, .u 0#64, .k .u32 (0), .k .u8 (0), .k .u8 (0), .k .u8 (0), .k .u8 (0), .nilf, .nilp, .k .i32 (0), .k .i32 (0)] := by kernel_rfl
attribute [go_sem] dT1 sT1 bT1 zT1 eql1T1 eql2T1 neq1T1 neq2T1 dT2 sT2 bT2 zT2 dT3 sT3 bT3 zT3 dT4 sT4 bT4 zT4 dT5 sT5 bT5 zT5 dT7 sT7 bT7 zT7 dT9 sT9 bT9 zT9 dT12 sT12 bT12 zT12 dT13 sT13 bT13 zT13 dT21 sT21 bT21 zT21 dT22 sT22 bT22 zT22 dT23 sT23 bT23 zT23 eqT23 neT23 dT24 sT24 bT24 zT24 dT25 sT25 bT25 zT25 dT26 sT26 bT26 zT26 dT27 sT27 bT27 zT27 dT28 sT28 bT28 zT28 eqT28 neT28 dT29 sT29 bT29 zT29 dT30 sT30 bT30 zT30 eqT30 neT30 dT31 sT31 bT31 zT31 dT32 sT32 bT32 zT32 eqT32 neT32 dT33 sT33 bT33 zT33 eqT33 neT33 dT34 sT34 bT34 zT34 dT35 sT35 bT35 zT35 dT36 sT36 bT36 zT36 eql1T36 eql2T36 neq1T36 neq2T36 dT38 sT38 bT38 zT38 eql1T38 eql2T38 neq1T38 neq2T38 dT39 sT39 bT39 zT39 eql1T39 eql2T39 neq1T39 neq2T39 dT40 sT40 bT40 zT40 eql1T40 eql2T40 neq1T40 neq2T40 dT41 sT41 bT41 zT41 eql1T41 eql2T41 neq1T41 neq2T41 dT42 sT42 bT42 zT42 eql1T42 eql2T42 neq1T42 neq2T42 dT43 sT43 bT43 zT43 eql1T43 eql2T43 neq1T43 neq2T43 dT44 sT44 bT44 zT44 eql1T44 eql2T44 neq1T44 neq2T44 dT45 sT45 bT45 zT45 eql1T45 eql2T45 neq1T45 neq2T45 dT46 sT46 bT46 zT46 dT48 sT48 bT48 zT48 eql1T48 eql2T48 neq1T48 neq2T48 dT49 sT49 bT49 zT49 eql1T49 eql2T49 neq1T49 neq2T49 dT50 sT50 bT50 zT50 eql1T50 eql2T50 neq1T50 neq2T50 dT51 sT51 bT51 zT51 dT52 sT52 bT52 zT52 eqT52 neT52 dT53 sT53 bT53 zT53 eql1T53 eql2T53 neq1T53 neq2T53 dT54 sT54 bT54 zT54 eqT54 neT54 dT55 sT55 bT55 zT55 eql1T55 eql2T55 neq1T55 neq2T55 dT56 sT56 bT56 zT56 eql1T56 eql2T56 neq1T56 neq2T56 dT57 sT57 bT57 zT57 eql1T57 eql2T57 neq1T57 neq2T57 dT58 sT58 bT58 zT58 dT59 sT59 bT59 zT59 dT60 sT60 bT60 zT60 eqT60 neT60 dT61 sT61 bT61 zT61 eqT61 neT61 dT62 sT62 bT62 zT62 dT63 sT63 bT63 zT63 eqT63 neT63 dT64 sT64 bT64 zT64 dT65 sT65 bT65 zT65 dT66 sT66 bT66 zT66 eql1T66 eql2T66 neq1T66 neq2T66 dT67 sT67 bT67 zT67 eql1T67 eql2T67 neq1T67 neq2T67 dT68 sT68 bT68 zT68 eql1T68 eql2T68 neq1T68 neq2T68 dT69 sT69 bT69 zT69 eql1T69 eql2T69 neq1T69 neq2T69 dT70 sT70 bT70 zT70 eql1T70 eql2T70 neq1T70 neq2T70 dT71 sT71 bT71 zT71 eql1T71 eql2T71 neq1T71 neq2T71 dT72 sT72 bT72 zT72 dT73 sT73 bT73 zT73 dT74 sT74 bT74 zT74 dT75 sT75 bT75 zT75 eqT75 neT75 dT76 sT76 bT76 zT76 eqT76 neT76 dT77 sT77 bT77 zT77 dT78 sT78 bT78 zT78 eqT78 neT78 dT79 sT79 bT79 zT79 dT80 sT80 bT80 zT80 dT81 sT81 bT81 zT81 eql1T81 eql2T81 neq1T81 neq2T81 dT82 sT82 bT82 zT82 eql1T82 eql2T82 neq1T82 neq2T82 dT84 sT84 bT84 zT84 eql1T84 eql2T84 neq1T84 neq2T84 dT85 sT85 bT85 zT85 eql1T85 eql2T85 neq1T85 neq2T85 dT86 sT86 bT86 zT86 eql1T86 eql2T86 neq1T86 neq2T86 dT87 sT87 bT87 zT87 eql1T87 eql2T87 neq1T87 neq2T87 dT88 sT88 bT88 zT88 eql1T88 eql2T88 neq1T88 neq2T88 dT89 sT89 bT89 zT89 eql1T89 eql2T89 neq1T89 neq2T89 dT90 sT90 bT90 zT90 dT91 sT91 bT91 zT91 eqT91 neT91 dT92 sT92 bT92 zT92 eql1T92 eql2T92 neq1T92 neq2T92 dT93 sT93 bT93 zT93 eql1T93 eql2T93 neq1T93 neq2T93 dT95 sT95 bT95 zT95 eql1T95 eql2T95 neq1T95 neq2T95 dT96 sT96 bT96 zT96 eql1T96 eql2T96 neq1T96 neq2T96 dT97 sT97 bT97 zT97 eql1T97 eql2T97 neq1T97 neq2T97 dT98 sT98 bT98 zT98 eql1T98 eql2T98 neq1T98 neq2T98 dT99 sT99 bT99 zT99 eql1T99 eql2T99 neq1T99 neq2T99 dT100 sT100 bT100 zT100 eql1T100 eql2T100 neq1T100 neq2T100 dT101 sT101 bT101 zT101 eql1T101 eql2T101 neq1T101 neq2T101 dT102 sT102 bT102 zT102 eql1T102 eql2T102 neq1T102 neq2T102 dT103 sT103 bT103 zT103 eql1T103 eql2T103 neq1T103 neq2T103 dT104 sT104 bT104 zT104 eqT104 neT104 mT105 kA131 kOkG131 zA129 dT106 sT106 bT106 zT106 dT107 sT107 bT107 zT107 dT108 sT108 bT108 zT108 eql1T108 eql2T108 neq1T108 neq2T108 dT109 sT109 bT109 zT109 eql1T109 eql2T109 neq1T109 neq2T109 dT110 sT110 bT110 zT110 eql1T110 eql2T110 neq1T110 neq2T110 dT111 sT111 bT111 zT111 eql1T111 eql2T111 neq1T111 neq2T111 dT112 sT112 bT112 zT112 eql1T112 eql2T112 neq1T112 neq2T112 dT113 sT113 bT113 zT113 eql1T113 eql2T113 neq1T113 neq2T113 dT115 sT115 bT115 zT115 eql1T115 eql2T115 neq1T115 neq2T115 dT116 sT116 bT116 zT116 eql1T116 eql2T116 neq1T116 neq2T116 dT117 sT117 bT117 zT117 eql1T117 eql2T117 neq1T117 neq2T117 dT118 sT118 bT118 zT118 eql1T118 eql2T118 neq1T118 neq2T118 dT119 sT119 bT119 zT119 eql1T119 eql2T119 neq1T119 neq2T119 dT120 sT120 bT120 zT120 eql1T120 eql2T120 neq1T120 neq2T120 dT121 sT121 bT121 zT121 eql1T121 eql2T121 neq1T121 neq2T121 dT122 sT122 bT122 zT122 eql1T122 eql2T122 neq1T122 neq2T122 dT123 sT123 bT123 zT123 eql1T123 eql2T123 neq1T123 neq2T123 dT124 sT124 bT124 zT124 eql1T124 eql2T124 neq1T124 neq2T124 dT125 sT125 bT125 zT125 eql1T125 eql2T125 neq1T125 neq2T125 dT126 sT126 bT126 zT126 eql1T126 eql2T126 neq1T126 neq2T126 dT127 sT127 bT127 zT127 eql1T127 eql2T127 neq1T127 neq2T127 dT128 sT128 bT128 zT128 dT129 sT129 bT129 zT129 dT130 sT130 bT130 zT130 dT131 sT131 bT131 zT131 eqT131 neT131 dT132 sT132 bT132 zT132 eql1T132 eql2T132 neq1T132 neq2T132 dT133 sT133 bT133 zT133 eql1T133 eql2T133 neq1T133 neq2T133 dT134 sT134 bT134 zT134 eql1T134 eql2T134 neq1T134 neq2T134 dT136 sT136 bT136 zT136 eql1T136 eql2T136 neq1T136 neq2T136 dT137 sT137 bT137 zT137 eql1T137 eql2T137 neq1T137 neq2T137 dT138 sT138 bT138 zT138 eql1T138 eql2T138 neq1T138 neq2T138 dT139 sT139 bT139 zT139 dT140 sT140 bT140 zT140 eql1T140 eql2T140 neq1T140 neq2T140 dT142 sT142 bT142 zT142 eql1T142 eql2T142 neq1T142 neq2T142 dT143 sT143 bT143 zT143 eql1T143 eql2T143 neq1T143 neq2T143 dT144 sT144 bT144 zT144 eql1T144 eql2T144 neq1T144 neq2T144 dT145 sT145 bT145 zT145 eql1T145 eql2T145 neq1T145 neq2T145 dT146 sT146 bT146 zT146 eql1T146 eql2T146 neq1T146 neq2T146 dT147 sT147 bT147 zT147 eql1T147 eql2T147 neq1T147 neq2T147 dT148 sT148 bT148 zT148 eql1T148 eql2T148 neq1T148 neq2T148 dT149 sT149 bT149 zT149 eql1T149 eql2T149 neq1T149 neq2T149 dT150 sT150 bT150 zT150 eql1T150 eql2T150 neq1T150 neq2T150 dT151 sT151 bT151 zT151 eql1T151 eql2T151 neq1T151 neq2T151 dT152 sT152 bT152 zT152 eql1T152 eql2T152 neq1T152 neq2T152 dT154 sT154 bT154 zT154 eql1T154 eql2T154 neq1T154 neq2T154 dT155 sT155 bT155 zT155 eql1T155 eql2T155 neq1T155 neq2T155 dT156 sT156 bT156 zT156 eql1T156 eql2T156 neq1T156 neq2T156 dT157 sT157 bT157 zT157 eql1T157 eql2T157 neq1T157 neq2T157 dT158 sT158 bT158 zT158 eql1T158 eql2T158 neq1T158 neq2T158 dT159 sT159 bT159 zT159 dT161 sT161 bT161 zT161 eql1T161 eql2T161 neq1T161 neq2T161 dT162 sT162 bT162 zT162 eql1T162 eql2T162 neq1T162 neq2T162 dT163 sT163 bT163 zT163 eql1T163 eql2T163 neq1T163 neq2T163 dT165 sT165 bT165 zT165 eql1T165 eql2T165 neq1T165 neq2T165 dT166 sT166 bT166 zT166 eql1T166 eql2T166 neq1T166 neq2T166 dT167 sT167 bT167 zT167 dT168 sT168 bT168 zT168 eql1T168 eql2T168 neq1T168 neq2T168 dT169 sT169 bT169 zT169 eql1T169 eql2T169 neq1T169 neq2T169 dT170 sT170 bT170 zT170 dT171 sT171 bT171 zT171 eql1T171 eql2T171 neq1T171 neq2T171 dT172 sT172 bT172 zT172 eql1T172 eql2T172 neq1T172 neq2T172 dT173 sT173 bT173 zT173 eql1T173 eql2T173 neq1T173 neq2T173 dT174 sT174 bT174 zT174 eql1T174 eql2T174 neq1T174 neq2T174 dT175 sT175 bT175 zT175 eql1T175 eql2T175 neq1T175 neq2T175 dT176 sT176 bT176 zT176 eql1T176 eql2T176 neq1T176 neq2T176 dT177 sT177 bT177 zT177 eql1T177 eql2T177 neq1T177 neq2T177 dT178 sT178 bT178 zT178 eql1T178 eql2T178 neq1T178 neq2T178 dT186 sT186 bT186 zT186 eql1T186 eql2T186 neq1T186 neq2T186 dT187 sT187 bT187 zT187 eql1T187 eql2T187 neq1T187 neq2T187 dT190 sT190 bT190 zT190
end Go.Proofs.YtflcjnekmjdckaaGreat
