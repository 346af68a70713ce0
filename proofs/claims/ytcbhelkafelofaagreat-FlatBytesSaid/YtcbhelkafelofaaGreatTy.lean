/- The types of this translation, as the abstract machine reads them: closed facts. -/
import Derived.Test.YtcbhelkafelofaaGreatProg
import Derived.Test.YtcbhelkafelofaaGreatAw
namespace Go.Proofs.YtcbhelkafelofaaGreat
open Go.Am
set_option maxRecDepth 100000
def zRow (n : Nat) (s : Sc) : List Sc := List.replicate n s
theorem zRow_len {n : Nat} {s : Sc} : (zRow n s).length = n := List.length_replicate
attribute [go_sem] zRow_len
theorem hmix : Tryz.prog.follows .mixedOrders = true := by kernel_rfl
theorem dT1 : dT Tryz.prog 1 = .other := by kernel_rfl
theorem sT1 : szT Tryz.prog 1 = 1 := by kernel_rfl
theorem bT1 : byT Tryz.prog 1 = 8 := by kernel_rfl
theorem zT1 : zT Tryz.prog 1 = some [.nilf] := by kernel_rfl
theorem eql1T1 {f : Nat} {c : List (Nat × Nat × Nat)}  : abin Tryz.prog .eql 1 (.c (.f f c)) (.c .nilf) = some (.c (.b false)) := by kernel_rfl
theorem eql2T1 : abin Tryz.prog .eql 1 (.c .nilf) (.c .nilf) = some (.c (.b true)) := by kernel_rfl
theorem neq1T1 {f : Nat} {c : List (Nat × Nat × Nat)}  : abin Tryz.prog .neq 1 (.c (.f f c)) (.c .nilf) = some (.c (.b true)) := by kernel_rfl
theorem neq2T1 : abin Tryz.prog .neq 1 (.c .nilf) (.c .nilf) = some (.c (.b false)) := by kernel_rfl
theorem dT2 : dT Tryz.prog 2 = .int .i64 := by kernel_rfl
theorem sT2 : szT Tryz.prog 2 = 1 := by kernel_rfl
theorem bT2 : byT Tryz.prog 2 = 8 := by kernel_rfl
theorem zT2 : zT Tryz.prog 2 = some [.i 0] := by kernel_rfl
theorem dT3 : dT Tryz.prog 3 = .int .i64 := by kernel_rfl
theorem sT3 : szT Tryz.prog 3 = 1 := by kernel_rfl
theorem bT3 : byT Tryz.prog 3 = 8 := by kernel_rfl
theorem zT3 : zT Tryz.prog 3 = some [.i 0] := by kernel_rfl
theorem dT4 : dT Tryz.prog 4 = .bool := by kernel_rfl
theorem sT4 : szT Tryz.prog 4 = 1 := by kernel_rfl
theorem bT4 : byT Tryz.prog 4 = 1 := by kernel_rfl
theorem zT4 : zT Tryz.prog 4 = some [.b false] := by kernel_rfl
theorem dT5 : dT Tryz.prog 5 = .int .u8 := by kernel_rfl
theorem sT5 : szT Tryz.prog 5 = 1 := by kernel_rfl
theorem bT5 : byT Tryz.prog 5 = 1 := by kernel_rfl
theorem zT5 : zT Tryz.prog 5 = some [.k .u8 (0)] := by kernel_rfl
theorem dT7 : dT Tryz.prog 7 = .st [(0, 2), (1, 3), (2, 4), (3, 6)] := by kernel_rfl
theorem sT7 : szT Tryz.prog 7 = 4 := by kernel_rfl
theorem bT7 : byT Tryz.prog 7 = 24 := by kernel_rfl
theorem zT7 : zT Tryz.prog 7 = some [.i 0, .i 0, .b false, .k .u8 (0)] := by kernel_rfl
theorem dT9 : dT Tryz.prog 9 = .str := by kernel_rfl
theorem sT9 : szT Tryz.prog 9 = 1 := by kernel_rfl
theorem bT9 : byT Tryz.prog 9 = 16 := by kernel_rfl
theorem zT9 : zT Tryz.prog 9 = some [.s ByteArray.empty] := by kernel_rfl
theorem dT12 : dT Tryz.prog 12 = .int .u64 := by kernel_rfl
theorem sT12 : szT Tryz.prog 12 = 1 := by kernel_rfl
theorem bT12 : byT Tryz.prog 12 = 8 := by kernel_rfl
theorem zT12 : zT Tryz.prog 12 = some [.u 0#64] := by kernel_rfl
theorem dT13 : dT Tryz.prog 13 = .st [(0, 9), (1, 12)] := by kernel_rfl
theorem sT13 : szT Tryz.prog 13 = 2 := by kernel_rfl
theorem bT13 : byT Tryz.prog 13 = 24 := by kernel_rfl
theorem zT13 : zT Tryz.prog 13 = some [.s ByteArray.empty, .u 0#64] := by kernel_rfl
theorem dT21 : dT Tryz.prog 21 = .int .i32 := by kernel_rfl
theorem sT21 : szT Tryz.prog 21 = 1 := by kernel_rfl
theorem bT21 : byT Tryz.prog 21 = 4 := by kernel_rfl
theorem zT21 : zT Tryz.prog 21 = some [.k .i32 (0)] := by kernel_rfl
theorem dT22 : dT Tryz.prog 22 = .int .u64 := by kernel_rfl
theorem sT22 : szT Tryz.prog 22 = 1 := by kernel_rfl
theorem bT22 : byT Tryz.prog 22 = 8 := by kernel_rfl
theorem zT22 : zT Tryz.prog 22 = some [.u 0#64] := by kernel_rfl
theorem dT23 : dT Tryz.prog 23 = .sl 5 := by kernel_rfl
theorem sT23 : szT Tryz.prog 23 = 1 := by kernel_rfl
theorem bT23 : byT Tryz.prog 23 = 24 := by kernel_rfl
theorem zT23 : zT Tryz.prog 23 = some [.nils] := by kernel_rfl
theorem eql1T23 {a b c n : Nat}  : abin Tryz.prog .eql 23 (.c (.sl a b c n)) (.c .nils) = if n = 0 then some (.c .qq) else some (.c (.b false)) := by kernel_rfl
theorem eql2T23 : abin Tryz.prog .eql 23 (.c .nils) (.c .nils) = some (.c (.b true)) := by kernel_rfl
theorem neq1T23 {a b c n : Nat}  : abin Tryz.prog .neq 23 (.c (.sl a b c n)) (.c .nils) = if n = 0 then some (.c .qq) else some (.c (.b true)) := by kernel_rfl
theorem neq2T23 : abin Tryz.prog .neq 23 (.c .nils) (.c .nils) = some (.c (.b false)) := by kernel_rfl
theorem dT24 : dT Tryz.prog 24 = .ptr 89 := by kernel_rfl
theorem sT24 : szT Tryz.prog 24 = 1 := by kernel_rfl
theorem bT24 : byT Tryz.prog 24 = 8 := by kernel_rfl
theorem zT24 : zT Tryz.prog 24 = some [.nilp] := by kernel_rfl
theorem eql1T24 {a b c : Nat}  : abin Tryz.prog .eql 24 (.c (.p a b c)) (.c .nilp) = some (.c (.b false)) := by kernel_rfl
theorem eql2T24 : abin Tryz.prog .eql 24 (.c .nilp) (.c .nilp) = some (.c (.b true)) := by kernel_rfl
theorem neq1T24 {a b c : Nat}  : abin Tryz.prog .neq 24 (.c (.p a b c)) (.c .nilp) = some (.c (.b true)) := by kernel_rfl
theorem neq2T24 : abin Tryz.prog .neq 24 (.c .nilp) (.c .nilp) = some (.c (.b false)) := by kernel_rfl
theorem dT26 : dT Tryz.prog 26 = .other := by kernel_rfl
theorem sT26 : szT Tryz.prog 26 = 1 := by kernel_rfl
theorem bT26 : byT Tryz.prog 26 = 8 := by kernel_rfl
theorem zT26 : zT Tryz.prog 26 = some [.nilf] := by kernel_rfl
theorem eql1T26 {f : Nat} {c : List (Nat × Nat × Nat)}  : abin Tryz.prog .eql 26 (.c (.f f c)) (.c .nilf) = some (.c (.b false)) := by kernel_rfl
theorem eql2T26 : abin Tryz.prog .eql 26 (.c .nilf) (.c .nilf) = some (.c (.b true)) := by kernel_rfl
theorem neq1T26 {f : Nat} {c : List (Nat × Nat × Nat)}  : abin Tryz.prog .neq 26 (.c (.f f c)) (.c .nilf) = some (.c (.b true)) := by kernel_rfl
theorem neq2T26 : abin Tryz.prog .neq 26 (.c .nilf) (.c .nilf) = some (.c (.b false)) := by kernel_rfl
theorem dT27 : dT Tryz.prog 27 = .other := by kernel_rfl
theorem sT27 : szT Tryz.prog 27 = 1 := by kernel_rfl
theorem bT27 : byT Tryz.prog 27 = 8 := by kernel_rfl
theorem zT27 : zT Tryz.prog 27 = some [.nilf] := by kernel_rfl
theorem eql1T27 {f : Nat} {c : List (Nat × Nat × Nat)}  : abin Tryz.prog .eql 27 (.c (.f f c)) (.c .nilf) = some (.c (.b false)) := by kernel_rfl
theorem eql2T27 : abin Tryz.prog .eql 27 (.c .nilf) (.c .nilf) = some (.c (.b true)) := by kernel_rfl
theorem neq1T27 {f : Nat} {c : List (Nat × Nat × Nat)}  : abin Tryz.prog .neq 27 (.c (.f f c)) (.c .nilf) = some (.c (.b true)) := by kernel_rfl
theorem neq2T27 : abin Tryz.prog .neq 27 (.c .nilf) (.c .nilf) = some (.c (.b false)) := by kernel_rfl
theorem dT29 : dT Tryz.prog 29 = .other := by kernel_rfl
theorem sT29 : szT Tryz.prog 29 = 1 := by kernel_rfl
theorem bT29 : byT Tryz.prog 29 = 8 := by kernel_rfl
theorem zT29 : zT Tryz.prog 29 = some [.nilf] := by kernel_rfl
theorem eql1T29 {f : Nat} {c : List (Nat × Nat × Nat)}  : abin Tryz.prog .eql 29 (.c (.f f c)) (.c .nilf) = some (.c (.b false)) := by kernel_rfl
theorem eql2T29 : abin Tryz.prog .eql 29 (.c .nilf) (.c .nilf) = some (.c (.b true)) := by kernel_rfl
theorem neq1T29 {f : Nat} {c : List (Nat × Nat × Nat)}  : abin Tryz.prog .neq 29 (.c (.f f c)) (.c .nilf) = some (.c (.b true)) := by kernel_rfl
theorem neq2T29 : abin Tryz.prog .neq 29 (.c .nilf) (.c .nilf) = some (.c (.b false)) := by kernel_rfl
theorem dT30 : dT Tryz.prog 30 = .st [(0, 4), (1, 4), (2, 4), (3, 22), (4, 3)] := by kernel_rfl
theorem sT30 : szT Tryz.prog 30 = 5 := by kernel_rfl
theorem bT30 : byT Tryz.prog 30 = 24 := by kernel_rfl
theorem zT30 : zT Tryz.prog 30 = some [.b false, .b false, .b false, .u 0#64, .i 0] := by kernel_rfl
theorem dT31 : dT Tryz.prog 31 = .st [(0, 4), (1, 4), (2, 4), (3, 22), (4, 3)] := by kernel_rfl
theorem sT31 : szT Tryz.prog 31 = 5 := by kernel_rfl
theorem bT31 : byT Tryz.prog 31 = 24 := by kernel_rfl
theorem zT31 : zT Tryz.prog 31 = some [.b false, .b false, .b false, .u 0#64, .i 0] := by kernel_rfl
theorem gT31 : tagsT Tryz.prog 12 31 = some [.q, .q, .q, .n, .n] := by kernel_rfl
theorem eqT31 {a b : List Sc} : abin Tryz.prog .eql 31 (.g a) (.g b) = (csEq [.q, .q, .q, .n, .n] a b).bind (eqU .eql) := ab_g_eql _ (by simp only [dT31, D.agg]) gT31
theorem neT31 {a b : List Sc} : abin Tryz.prog .neq 31 (.g a) (.g b) = (csEq [.q, .q, .q, .n, .n] a b).bind (eqU .neq) := ab_g_neq _ (by simp only [dT31, D.agg]) gT31
theorem dT32 : dT Tryz.prog 32 = .arr 8 31 := by kernel_rfl
theorem sT32 : szT Tryz.prog 32 = 40 := by kernel_rfl
theorem bT32 : byT Tryz.prog 32 = 192 := by kernel_rfl
theorem zT32 : zT Tryz.prog 32 = some [.b false, .b false, .b false, .u 0#64, .i 0, .b false, .b false, .b false, .u 0#64, .i 0, .b false, .b false, .b false, .u 0#64, .i 0, .b false, .b false, .b false, .u 0#64, .i 0, .b false, .b false, .b false, .u 0#64, .i 0, .b false, .b false, .b false, .u 0#64, .i 0, .b false, .b false, .b false, .u 0#64, .i 0, .b false, .b false, .b false, .u 0#64, .i 0] := by kernel_rfl
theorem gT32 : tagsT Tryz.prog 12 32 = some [.q, .q, .q, .n, .n, .q, .q, .q, .n, .n, .q, .q, .q, .n, .n, .q, .q, .q, .n, .n, .q, .q, .q, .n, .n, .q, .q, .q, .n, .n, .q, .q, .q, .n, .n, .q, .q, .q, .n, .n] := by kernel_rfl
theorem eqT32 {a b : List Sc} : abin Tryz.prog .eql 32 (.g a) (.g b) = (csEq [.q, .q, .q, .n, .n, .q, .q, .q, .n, .n, .q, .q, .q, .n, .n, .q, .q, .q, .n, .n, .q, .q, .q, .n, .n, .q, .q, .q, .n, .n, .q, .q, .q, .n, .n, .q, .q, .q, .n, .n] a b).bind (eqU .eql) := ab_g_eql _ (by simp only [dT32, D.agg]) gT32
theorem neT32 {a b : List Sc} : abin Tryz.prog .neq 32 (.g a) (.g b) = (csEq [.q, .q, .q, .n, .n, .q, .q, .q, .n, .n, .q, .q, .q, .n, .n, .q, .q, .q, .n, .n, .q, .q, .q, .n, .n, .q, .q, .q, .n, .n, .q, .q, .q, .n, .n, .q, .q, .q, .n, .n] a b).bind (eqU .neq) := ab_g_neq _ (by simp only [dT32, D.agg]) gT32
theorem dT33 : dT Tryz.prog 33 = .st [(0, 22), (1, 4), (2, 32)] := by kernel_rfl
theorem sT33 : szT Tryz.prog 33 = 42 := by kernel_rfl
theorem bT33 : byT Tryz.prog 33 = 208 := by kernel_rfl
theorem zT33 : zT Tryz.prog 33 = some [.u 0#64, .b false, .b false, .b false, .b false, .u 0#64, .i 0, .b false, .b false, .b false, .u 0#64, .i 0, .b false, .b false, .b false, .u 0#64, .i 0, .b false, .b false, .b false, .u 0#64, .i 0, .b false, .b false, .b false, .u 0#64, .i 0, .b false, .b false, .b false, .u 0#64, .i 0, .b false, .b false, .b false, .u 0#64, .i 0, .b false, .b false, .b false, .u 0#64, .i 0] := by kernel_rfl
theorem dT34 : dT Tryz.prog 34 = .st [(0, 22), (1, 4), (2, 32)] := by kernel_rfl
theorem sT34 : szT Tryz.prog 34 = 42 := by kernel_rfl
theorem bT34 : byT Tryz.prog 34 = 208 := by kernel_rfl
theorem zT34 : zT Tryz.prog 34 = some [.u 0#64, .b false, .b false, .b false, .b false, .u 0#64, .i 0, .b false, .b false, .b false, .u 0#64, .i 0, .b false, .b false, .b false, .u 0#64, .i 0, .b false, .b false, .b false, .u 0#64, .i 0, .b false, .b false, .b false, .u 0#64, .i 0, .b false, .b false, .b false, .u 0#64, .i 0, .b false, .b false, .b false, .u 0#64, .i 0, .b false, .b false, .b false, .u 0#64, .i 0] := by kernel_rfl
theorem dT36 : dT Tryz.prog 36 = .other := by kernel_rfl
theorem sT36 : szT Tryz.prog 36 = 1 := by kernel_rfl
theorem bT36 : byT Tryz.prog 36 = 8 := by kernel_rfl
theorem zT36 : zT Tryz.prog 36 = some [.nilf] := by kernel_rfl
theorem eql1T36 {f : Nat} {c : List (Nat × Nat × Nat)}  : abin Tryz.prog .eql 36 (.c (.f f c)) (.c .nilf) = some (.c (.b false)) := by kernel_rfl
theorem eql2T36 : abin Tryz.prog .eql 36 (.c .nilf) (.c .nilf) = some (.c (.b true)) := by kernel_rfl
theorem neq1T36 {f : Nat} {c : List (Nat × Nat × Nat)}  : abin Tryz.prog .neq 36 (.c (.f f c)) (.c .nilf) = some (.c (.b true)) := by kernel_rfl
theorem neq2T36 : abin Tryz.prog .neq 36 (.c .nilf) (.c .nilf) = some (.c (.b false)) := by kernel_rfl
theorem dT37 : dT Tryz.prog 37 = .int .i64 := by kernel_rfl
theorem sT37 : szT Tryz.prog 37 = 1 := by kernel_rfl
theorem bT37 : byT Tryz.prog 37 = 8 := by kernel_rfl
theorem zT37 : zT Tryz.prog 37 = some [.i 0] := by kernel_rfl
theorem dT38 : dT Tryz.prog 38 = .int .i64 := by kernel_rfl
theorem sT38 : szT Tryz.prog 38 = 1 := by kernel_rfl
theorem bT38 : byT Tryz.prog 38 = 8 := by kernel_rfl
theorem zT38 : zT Tryz.prog 38 = some [.i 0] := by kernel_rfl
theorem dT39 : dT Tryz.prog 39 = .st [(0, 3), (1, 22), (2, 3), (3, 22)] := by kernel_rfl
theorem sT39 : szT Tryz.prog 39 = 4 := by kernel_rfl
theorem bT39 : byT Tryz.prog 39 = 32 := by kernel_rfl
theorem zT39 : zT Tryz.prog 39 = some [.i 0, .u 0#64, .i 0, .u 0#64] := by kernel_rfl
theorem dT40 : dT Tryz.prog 40 = .st [(0, 3), (1, 22), (2, 3), (3, 22)] := by kernel_rfl
theorem sT40 : szT Tryz.prog 40 = 4 := by kernel_rfl
theorem bT40 : byT Tryz.prog 40 = 32 := by kernel_rfl
theorem zT40 : zT Tryz.prog 40 = some [.i 0, .u 0#64, .i 0, .u 0#64] := by kernel_rfl
theorem gT40 : tagsT Tryz.prog 12 40 = some [.n, .n, .n, .n] := by kernel_rfl
theorem eqT40 {a b : List Sc} : abin Tryz.prog .eql 40 (.g a) (.g b) = (csEq [.n, .n, .n, .n] a b).bind (eqU .eql) := ab_g_eql _ (by simp only [dT40, D.agg]) gT40
theorem neT40 {a b : List Sc} : abin Tryz.prog .neq 40 (.g a) (.g b) = (csEq [.n, .n, .n, .n] a b).bind (eqU .neq) := ab_g_neq _ (by simp only [dT40, D.agg]) gT40
theorem dT41 : dT Tryz.prog 41 = .st [(0, 37), (1, 22), (2, 22), (3, 3), (4, 3), (5, 38), (6, 22), (7, 22), (8, 4), (9, 3), (10, 31), (15, 40)] := by kernel_rfl
theorem sT41 : szT Tryz.prog 41 = 19 := by kernel_rfl
theorem bT41 : byT Tryz.prog 41 = 136 := by kernel_rfl
theorem zT41 : zT Tryz.prog 41 = some [.i 0, .u 0#64, .u 0#64, .i 0, .i 0, .i 0, .u 0#64, .u 0#64, .b false, .i 0, .b false, .b false, .b false, .u 0#64, .i 0, .i 0, .u 0#64, .i 0, .u 0#64] := by kernel_rfl
theorem dT42 : dT Tryz.prog 42 = .st [(0, 37), (1, 22), (2, 22), (3, 3), (4, 3), (5, 38), (6, 22), (7, 22), (8, 4), (9, 3), (10, 31), (15, 40)] := by kernel_rfl
theorem sT42 : szT Tryz.prog 42 = 19 := by kernel_rfl
theorem bT42 : byT Tryz.prog 42 = 136 := by kernel_rfl
theorem zT42 : zT Tryz.prog 42 = some [.i 0, .u 0#64, .u 0#64, .i 0, .i 0, .i 0, .u 0#64, .u 0#64, .b false, .i 0, .b false, .b false, .b false, .u 0#64, .i 0, .i 0, .u 0#64, .i 0, .u 0#64] := by kernel_rfl
theorem gT42 : tagsT Tryz.prog 12 42 = some [.n, .n, .n, .n, .n, .n, .n, .n, .q, .n, .q, .q, .q, .n, .n, .n, .n, .n, .n] := by kernel_rfl
theorem eqT42 {a b : List Sc} : abin Tryz.prog .eql 42 (.g a) (.g b) = (csEq [.n, .n, .n, .n, .n, .n, .n, .n, .q, .n, .q, .q, .q, .n, .n, .n, .n, .n, .n] a b).bind (eqU .eql) := ab_g_eql _ (by simp only [dT42, D.agg]) gT42
theorem neT42 {a b : List Sc} : abin Tryz.prog .neq 42 (.g a) (.g b) = (csEq [.n, .n, .n, .n, .n, .n, .n, .n, .q, .n, .q, .q, .q, .n, .n, .n, .n, .n, .n] a b).bind (eqU .neq) := ab_g_neq _ (by simp only [dT42, D.agg]) gT42
theorem dT43 : dT Tryz.prog 43 = .other := by kernel_rfl
theorem sT43 : szT Tryz.prog 43 = 1 := by kernel_rfl
theorem bT43 : byT Tryz.prog 43 = 8 := by kernel_rfl
theorem zT43 : zT Tryz.prog 43 = some [.nilf] := by kernel_rfl
theorem eql1T43 {f : Nat} {c : List (Nat × Nat × Nat)}  : abin Tryz.prog .eql 43 (.c (.f f c)) (.c .nilf) = some (.c (.b false)) := by kernel_rfl
theorem eql2T43 : abin Tryz.prog .eql 43 (.c .nilf) (.c .nilf) = some (.c (.b true)) := by kernel_rfl
theorem neq1T43 {f : Nat} {c : List (Nat × Nat × Nat)}  : abin Tryz.prog .neq 43 (.c (.f f c)) (.c .nilf) = some (.c (.b true)) := by kernel_rfl
theorem neq2T43 : abin Tryz.prog .neq 43 (.c .nilf) (.c .nilf) = some (.c (.b false)) := by kernel_rfl
theorem dT44 : dT Tryz.prog 44 = .other := by kernel_rfl
theorem sT44 : szT Tryz.prog 44 = 1 := by kernel_rfl
theorem bT44 : byT Tryz.prog 44 = 8 := by kernel_rfl
theorem zT44 : zT Tryz.prog 44 = some [.nilf] := by kernel_rfl
theorem eql1T44 {f : Nat} {c : List (Nat × Nat × Nat)}  : abin Tryz.prog .eql 44 (.c (.f f c)) (.c .nilf) = some (.c (.b false)) := by kernel_rfl
theorem eql2T44 : abin Tryz.prog .eql 44 (.c .nilf) (.c .nilf) = some (.c (.b true)) := by kernel_rfl
theorem neq1T44 {f : Nat} {c : List (Nat × Nat × Nat)}  : abin Tryz.prog .neq 44 (.c (.f f c)) (.c .nilf) = some (.c (.b true)) := by kernel_rfl
theorem neq2T44 : abin Tryz.prog .neq 44 (.c .nilf) (.c .nilf) = some (.c (.b false)) := by kernel_rfl
theorem dT45 : dT Tryz.prog 45 = .ptr 140 := by kernel_rfl
theorem sT45 : szT Tryz.prog 45 = 1 := by kernel_rfl
theorem bT45 : byT Tryz.prog 45 = 8 := by kernel_rfl
theorem zT45 : zT Tryz.prog 45 = some [.nilp] := by kernel_rfl
theorem eql1T45 {a b c : Nat}  : abin Tryz.prog .eql 45 (.c (.p a b c)) (.c .nilp) = some (.c (.b false)) := by kernel_rfl
theorem eql2T45 : abin Tryz.prog .eql 45 (.c .nilp) (.c .nilp) = some (.c (.b true)) := by kernel_rfl
theorem neq1T45 {a b c : Nat}  : abin Tryz.prog .neq 45 (.c (.p a b c)) (.c .nilp) = some (.c (.b true)) := by kernel_rfl
theorem neq2T45 : abin Tryz.prog .neq 45 (.c .nilp) (.c .nilp) = some (.c (.b false)) := by kernel_rfl
theorem dT46 : dT Tryz.prog 46 = .other := by kernel_rfl
theorem sT46 : szT Tryz.prog 46 = 1 := by kernel_rfl
theorem bT46 : byT Tryz.prog 46 = 8 := by kernel_rfl
theorem zT46 : zT Tryz.prog 46 = some [.nilf] := by kernel_rfl
theorem eql1T46 {f : Nat} {c : List (Nat × Nat × Nat)}  : abin Tryz.prog .eql 46 (.c (.f f c)) (.c .nilf) = some (.c (.b false)) := by kernel_rfl
theorem eql2T46 : abin Tryz.prog .eql 46 (.c .nilf) (.c .nilf) = some (.c (.b true)) := by kernel_rfl
theorem neq1T46 {f : Nat} {c : List (Nat × Nat × Nat)}  : abin Tryz.prog .neq 46 (.c (.f f c)) (.c .nilf) = some (.c (.b true)) := by kernel_rfl
theorem neq2T46 : abin Tryz.prog .neq 46 (.c .nilf) (.c .nilf) = some (.c (.b false)) := by kernel_rfl
theorem dT47 : dT Tryz.prog 47 = .other := by kernel_rfl
theorem sT47 : szT Tryz.prog 47 = 1 := by kernel_rfl
theorem bT47 : byT Tryz.prog 47 = 8 := by kernel_rfl
theorem zT47 : zT Tryz.prog 47 = some [.nilf] := by kernel_rfl
theorem eql1T47 {f : Nat} {c : List (Nat × Nat × Nat)}  : abin Tryz.prog .eql 47 (.c (.f f c)) (.c .nilf) = some (.c (.b false)) := by kernel_rfl
theorem eql2T47 : abin Tryz.prog .eql 47 (.c .nilf) (.c .nilf) = some (.c (.b true)) := by kernel_rfl
theorem neq1T47 {f : Nat} {c : List (Nat × Nat × Nat)}  : abin Tryz.prog .neq 47 (.c (.f f c)) (.c .nilf) = some (.c (.b true)) := by kernel_rfl
theorem neq2T47 : abin Tryz.prog .neq 47 (.c .nilf) (.c .nilf) = some (.c (.b false)) := by kernel_rfl
theorem dT48 : dT Tryz.prog 48 = .other := by kernel_rfl
theorem sT48 : szT Tryz.prog 48 = 1 := by kernel_rfl
theorem bT48 : byT Tryz.prog 48 = 8 := by kernel_rfl
theorem zT48 : zT Tryz.prog 48 = some [.nilf] := by kernel_rfl
theorem eql1T48 {f : Nat} {c : List (Nat × Nat × Nat)}  : abin Tryz.prog .eql 48 (.c (.f f c)) (.c .nilf) = some (.c (.b false)) := by kernel_rfl
theorem eql2T48 : abin Tryz.prog .eql 48 (.c .nilf) (.c .nilf) = some (.c (.b true)) := by kernel_rfl
theorem neq1T48 {f : Nat} {c : List (Nat × Nat × Nat)}  : abin Tryz.prog .neq 48 (.c (.f f c)) (.c .nilf) = some (.c (.b true)) := by kernel_rfl
theorem neq2T48 : abin Tryz.prog .neq 48 (.c .nilf) (.c .nilf) = some (.c (.b false)) := by kernel_rfl
theorem dT49 : dT Tryz.prog 49 = .st [(0, 3), (1, 3), (2, 3), (3, 3)] := by kernel_rfl
theorem sT49 : szT Tryz.prog 49 = 4 := by kernel_rfl
theorem bT49 : byT Tryz.prog 49 = 32 := by kernel_rfl
theorem zT49 : zT Tryz.prog 49 = some [.i 0, .i 0, .i 0, .i 0] := by kernel_rfl
theorem dT50 : dT Tryz.prog 50 = .st [(0, 3), (1, 3), (2, 3), (3, 3)] := by kernel_rfl
theorem sT50 : szT Tryz.prog 50 = 4 := by kernel_rfl
theorem bT50 : byT Tryz.prog 50 = 32 := by kernel_rfl
theorem zT50 : zT Tryz.prog 50 = some [.i 0, .i 0, .i 0, .i 0] := by kernel_rfl
theorem gT50 : tagsT Tryz.prog 12 50 = some [.n, .n, .n, .n] := by kernel_rfl
theorem eqT50 {a b : List Sc} : abin Tryz.prog .eql 50 (.g a) (.g b) = (csEq [.n, .n, .n, .n] a b).bind (eqU .eql) := ab_g_eql _ (by simp only [dT50, D.agg]) gT50
theorem neT50 {a b : List Sc} : abin Tryz.prog .neq 50 (.g a) (.g b) = (csEq [.n, .n, .n, .n] a b).bind (eqU .neq) := ab_g_neq _ (by simp only [dT50, D.agg]) gT50
theorem dT51 : dT Tryz.prog 51 = .other := by kernel_rfl
theorem sT51 : szT Tryz.prog 51 = 1 := by kernel_rfl
theorem bT51 : byT Tryz.prog 51 = 8 := by kernel_rfl
theorem zT51 : zT Tryz.prog 51 = some [.nilf] := by kernel_rfl
theorem eql1T51 {f : Nat} {c : List (Nat × Nat × Nat)}  : abin Tryz.prog .eql 51 (.c (.f f c)) (.c .nilf) = some (.c (.b false)) := by kernel_rfl
theorem eql2T51 : abin Tryz.prog .eql 51 (.c .nilf) (.c .nilf) = some (.c (.b true)) := by kernel_rfl
theorem neq1T51 {f : Nat} {c : List (Nat × Nat × Nat)}  : abin Tryz.prog .neq 51 (.c (.f f c)) (.c .nilf) = some (.c (.b true)) := by kernel_rfl
theorem neq2T51 : abin Tryz.prog .neq 51 (.c .nilf) (.c .nilf) = some (.c (.b false)) := by kernel_rfl
theorem dT52 : dT Tryz.prog 52 = .other := by kernel_rfl
theorem sT52 : szT Tryz.prog 52 = 1 := by kernel_rfl
theorem bT52 : byT Tryz.prog 52 = 8 := by kernel_rfl
theorem zT52 : zT Tryz.prog 52 = some [.nilf] := by kernel_rfl
theorem eql1T52 {f : Nat} {c : List (Nat × Nat × Nat)}  : abin Tryz.prog .eql 52 (.c (.f f c)) (.c .nilf) = some (.c (.b false)) := by kernel_rfl
theorem eql2T52 : abin Tryz.prog .eql 52 (.c .nilf) (.c .nilf) = some (.c (.b true)) := by kernel_rfl
theorem neq1T52 {f : Nat} {c : List (Nat × Nat × Nat)}  : abin Tryz.prog .neq 52 (.c (.f f c)) (.c .nilf) = some (.c (.b true)) := by kernel_rfl
theorem neq2T52 : abin Tryz.prog .neq 52 (.c .nilf) (.c .nilf) = some (.c (.b false)) := by kernel_rfl
theorem dT53 : dT Tryz.prog 53 = .other := by kernel_rfl
theorem sT53 : szT Tryz.prog 53 = 1 := by kernel_rfl
theorem bT53 : byT Tryz.prog 53 = 8 := by kernel_rfl
theorem zT53 : zT Tryz.prog 53 = some [.nilf] := by kernel_rfl
theorem eql1T53 {f : Nat} {c : List (Nat × Nat × Nat)}  : abin Tryz.prog .eql 53 (.c (.f f c)) (.c .nilf) = some (.c (.b false)) := by kernel_rfl
theorem eql2T53 : abin Tryz.prog .eql 53 (.c .nilf) (.c .nilf) = some (.c (.b true)) := by kernel_rfl
theorem neq1T53 {f : Nat} {c : List (Nat × Nat × Nat)}  : abin Tryz.prog .neq 53 (.c (.f f c)) (.c .nilf) = some (.c (.b true)) := by kernel_rfl
theorem neq2T53 : abin Tryz.prog .neq 53 (.c .nilf) (.c .nilf) = some (.c (.b false)) := by kernel_rfl
theorem dT54 : dT Tryz.prog 54 = .int .i64 := by kernel_rfl
theorem sT54 : szT Tryz.prog 54 = 1 := by kernel_rfl
theorem bT54 : byT Tryz.prog 54 = 8 := by kernel_rfl
theorem zT54 : zT Tryz.prog 54 = some [.i 0] := by kernel_rfl
theorem dT56 : dT Tryz.prog 56 = .other := by kernel_rfl
theorem sT56 : szT Tryz.prog 56 = 1 := by kernel_rfl
theorem bT56 : byT Tryz.prog 56 = 8 := by kernel_rfl
theorem zT56 : zT Tryz.prog 56 = some [.nilf] := by kernel_rfl
theorem eql1T56 {f : Nat} {c : List (Nat × Nat × Nat)}  : abin Tryz.prog .eql 56 (.c (.f f c)) (.c .nilf) = some (.c (.b false)) := by kernel_rfl
theorem eql2T56 : abin Tryz.prog .eql 56 (.c .nilf) (.c .nilf) = some (.c (.b true)) := by kernel_rfl
theorem neq1T56 {f : Nat} {c : List (Nat × Nat × Nat)}  : abin Tryz.prog .neq 56 (.c (.f f c)) (.c .nilf) = some (.c (.b true)) := by kernel_rfl
theorem neq2T56 : abin Tryz.prog .neq 56 (.c .nilf) (.c .nilf) = some (.c (.b false)) := by kernel_rfl
theorem dT57 : dT Tryz.prog 57 = .st [(0, 23)] := by kernel_rfl
theorem sT57 : szT Tryz.prog 57 = 1 := by kernel_rfl
theorem bT57 : byT Tryz.prog 57 = 24 := by kernel_rfl
theorem zT57 : zT Tryz.prog 57 = some [.nils] := by kernel_rfl
theorem dT58 : dT Tryz.prog 58 = .st [(0, 23)] := by kernel_rfl
theorem sT58 : szT Tryz.prog 58 = 1 := by kernel_rfl
theorem bT58 : byT Tryz.prog 58 = 24 := by kernel_rfl
theorem zT58 : zT Tryz.prog 58 = some [.nils] := by kernel_rfl
theorem dT59 : dT Tryz.prog 59 = .other := by kernel_rfl
theorem sT59 : szT Tryz.prog 59 = 1 := by kernel_rfl
theorem bT59 : byT Tryz.prog 59 = 8 := by kernel_rfl
theorem zT59 : zT Tryz.prog 59 = some [.nilf] := by kernel_rfl
theorem eql1T59 {f : Nat} {c : List (Nat × Nat × Nat)}  : abin Tryz.prog .eql 59 (.c (.f f c)) (.c .nilf) = some (.c (.b false)) := by kernel_rfl
theorem eql2T59 : abin Tryz.prog .eql 59 (.c .nilf) (.c .nilf) = some (.c (.b true)) := by kernel_rfl
theorem neq1T59 {f : Nat} {c : List (Nat × Nat × Nat)}  : abin Tryz.prog .neq 59 (.c (.f f c)) (.c .nilf) = some (.c (.b true)) := by kernel_rfl
theorem neq2T59 : abin Tryz.prog .neq 59 (.c .nilf) (.c .nilf) = some (.c (.b false)) := by kernel_rfl
theorem dT60 : dT Tryz.prog 60 = .other := by kernel_rfl
theorem sT60 : szT Tryz.prog 60 = 1 := by kernel_rfl
theorem bT60 : byT Tryz.prog 60 = 8 := by kernel_rfl
theorem zT60 : zT Tryz.prog 60 = some [.nilf] := by kernel_rfl
theorem eql1T60 {f : Nat} {c : List (Nat × Nat × Nat)}  : abin Tryz.prog .eql 60 (.c (.f f c)) (.c .nilf) = some (.c (.b false)) := by kernel_rfl
theorem eql2T60 : abin Tryz.prog .eql 60 (.c .nilf) (.c .nilf) = some (.c (.b true)) := by kernel_rfl
theorem neq1T60 {f : Nat} {c : List (Nat × Nat × Nat)}  : abin Tryz.prog .neq 60 (.c (.f f c)) (.c .nilf) = some (.c (.b true)) := by kernel_rfl
theorem neq2T60 : abin Tryz.prog .neq 60 (.c .nilf) (.c .nilf) = some (.c (.b false)) := by kernel_rfl
theorem dT61 : dT Tryz.prog 61 = .other := by kernel_rfl
theorem sT61 : szT Tryz.prog 61 = 1 := by kernel_rfl
theorem bT61 : byT Tryz.prog 61 = 8 := by kernel_rfl
theorem zT61 : zT Tryz.prog 61 = some [.nilf] := by kernel_rfl
theorem eql1T61 {f : Nat} {c : List (Nat × Nat × Nat)}  : abin Tryz.prog .eql 61 (.c (.f f c)) (.c .nilf) = some (.c (.b false)) := by kernel_rfl
theorem eql2T61 : abin Tryz.prog .eql 61 (.c .nilf) (.c .nilf) = some (.c (.b true)) := by kernel_rfl
theorem neq1T61 {f : Nat} {c : List (Nat × Nat × Nat)}  : abin Tryz.prog .neq 61 (.c (.f f c)) (.c .nilf) = some (.c (.b true)) := by kernel_rfl
theorem neq2T61 : abin Tryz.prog .neq 61 (.c .nilf) (.c .nilf) = some (.c (.b false)) := by kernel_rfl
theorem dT62 : dT Tryz.prog 62 = .other := by kernel_rfl
theorem sT62 : szT Tryz.prog 62 = 1 := by kernel_rfl
theorem bT62 : byT Tryz.prog 62 = 8 := by kernel_rfl
theorem zT62 : zT Tryz.prog 62 = some [.nilf] := by kernel_rfl
theorem eql1T62 {f : Nat} {c : List (Nat × Nat × Nat)}  : abin Tryz.prog .eql 62 (.c (.f f c)) (.c .nilf) = some (.c (.b false)) := by kernel_rfl
theorem eql2T62 : abin Tryz.prog .eql 62 (.c .nilf) (.c .nilf) = some (.c (.b true)) := by kernel_rfl
theorem neq1T62 {f : Nat} {c : List (Nat × Nat × Nat)}  : abin Tryz.prog .neq 62 (.c (.f f c)) (.c .nilf) = some (.c (.b true)) := by kernel_rfl
theorem neq2T62 : abin Tryz.prog .neq 62 (.c .nilf) (.c .nilf) = some (.c (.b false)) := by kernel_rfl
theorem dT63 : dT Tryz.prog 63 = .other := by kernel_rfl
theorem sT63 : szT Tryz.prog 63 = 1 := by kernel_rfl
theorem bT63 : byT Tryz.prog 63 = 8 := by kernel_rfl
theorem zT63 : zT Tryz.prog 63 = some [.nilf] := by kernel_rfl
theorem eql1T63 {f : Nat} {c : List (Nat × Nat × Nat)}  : abin Tryz.prog .eql 63 (.c (.f f c)) (.c .nilf) = some (.c (.b false)) := by kernel_rfl
theorem eql2T63 : abin Tryz.prog .eql 63 (.c .nilf) (.c .nilf) = some (.c (.b true)) := by kernel_rfl
theorem neq1T63 {f : Nat} {c : List (Nat × Nat × Nat)}  : abin Tryz.prog .neq 63 (.c (.f f c)) (.c .nilf) = some (.c (.b true)) := by kernel_rfl
theorem neq2T63 : abin Tryz.prog .neq 63 (.c .nilf) (.c .nilf) = some (.c (.b false)) := by kernel_rfl
theorem dT64 : dT Tryz.prog 64 = .sl 70 := by kernel_rfl
theorem sT64 : szT Tryz.prog 64 = 1 := by kernel_rfl
theorem bT64 : byT Tryz.prog 64 = 24 := by kernel_rfl
theorem zT64 : zT Tryz.prog 64 = some [.nils] := by kernel_rfl
theorem eql1T64 {a b c n : Nat}  : abin Tryz.prog .eql 64 (.c (.sl a b c n)) (.c .nils) = if n = 0 then some (.c .qq) else some (.c (.b false)) := by kernel_rfl
theorem eql2T64 : abin Tryz.prog .eql 64 (.c .nils) (.c .nils) = some (.c (.b true)) := by kernel_rfl
theorem neq1T64 {a b c n : Nat}  : abin Tryz.prog .neq 64 (.c (.sl a b c n)) (.c .nils) = if n = 0 then some (.c .qq) else some (.c (.b true)) := by kernel_rfl
theorem neq2T64 : abin Tryz.prog .neq 64 (.c .nils) (.c .nils) = some (.c (.b false)) := by kernel_rfl
theorem dT65 : dT Tryz.prog 65 = .other := by kernel_rfl
theorem sT65 : szT Tryz.prog 65 = 1 := by kernel_rfl
theorem bT65 : byT Tryz.prog 65 = 8 := by kernel_rfl
theorem zT65 : zT Tryz.prog 65 = some [.nilf] := by kernel_rfl
theorem eql1T65 {f : Nat} {c : List (Nat × Nat × Nat)}  : abin Tryz.prog .eql 65 (.c (.f f c)) (.c .nilf) = some (.c (.b false)) := by kernel_rfl
theorem eql2T65 : abin Tryz.prog .eql 65 (.c .nilf) (.c .nilf) = some (.c (.b true)) := by kernel_rfl
theorem neq1T65 {f : Nat} {c : List (Nat × Nat × Nat)}  : abin Tryz.prog .neq 65 (.c (.f f c)) (.c .nilf) = some (.c (.b true)) := by kernel_rfl
theorem neq2T65 : abin Tryz.prog .neq 65 (.c .nilf) (.c .nilf) = some (.c (.b false)) := by kernel_rfl
theorem dT66 : dT Tryz.prog 66 = .ptr 110 := by kernel_rfl
theorem sT66 : szT Tryz.prog 66 = 1 := by kernel_rfl
theorem bT66 : byT Tryz.prog 66 = 8 := by kernel_rfl
theorem zT66 : zT Tryz.prog 66 = some [.nilp] := by kernel_rfl
theorem eql1T66 {a b c : Nat}  : abin Tryz.prog .eql 66 (.c (.p a b c)) (.c .nilp) = some (.c (.b false)) := by kernel_rfl
theorem eql2T66 : abin Tryz.prog .eql 66 (.c .nilp) (.c .nilp) = some (.c (.b true)) := by kernel_rfl
theorem neq1T66 {a b c : Nat}  : abin Tryz.prog .neq 66 (.c (.p a b c)) (.c .nilp) = some (.c (.b true)) := by kernel_rfl
theorem neq2T66 : abin Tryz.prog .neq 66 (.c .nilp) (.c .nilp) = some (.c (.b false)) := by kernel_rfl
theorem dT68 : dT Tryz.prog 68 = .other := by kernel_rfl
theorem sT68 : szT Tryz.prog 68 = 1 := by kernel_rfl
theorem bT68 : byT Tryz.prog 68 = 8 := by kernel_rfl
theorem zT68 : zT Tryz.prog 68 = some [.nilf] := by kernel_rfl
theorem eql1T68 {f : Nat} {c : List (Nat × Nat × Nat)}  : abin Tryz.prog .eql 68 (.c (.f f c)) (.c .nilf) = some (.c (.b false)) := by kernel_rfl
theorem eql2T68 : abin Tryz.prog .eql 68 (.c .nilf) (.c .nilf) = some (.c (.b true)) := by kernel_rfl
theorem neq1T68 {f : Nat} {c : List (Nat × Nat × Nat)}  : abin Tryz.prog .neq 68 (.c (.f f c)) (.c .nilf) = some (.c (.b true)) := by kernel_rfl
theorem neq2T68 : abin Tryz.prog .neq 68 (.c .nilf) (.c .nilf) = some (.c (.b false)) := by kernel_rfl
theorem dT69 : dT Tryz.prog 69 = .st [(0, 3), (1, 42)] := by kernel_rfl
theorem sT69 : szT Tryz.prog 69 = 20 := by kernel_rfl
theorem bT69 : byT Tryz.prog 69 = 144 := by kernel_rfl
theorem zT69 : zT Tryz.prog 69 = some [.i 0, .i 0, .u 0#64, .u 0#64, .i 0, .i 0, .i 0, .u 0#64, .u 0#64, .b false, .i 0, .b false, .b false, .b false, .u 0#64, .i 0, .i 0, .u 0#64, .i 0, .u 0#64] := by kernel_rfl
theorem dT70 : dT Tryz.prog 70 = .st [(0, 3), (1, 42)] := by kernel_rfl
theorem sT70 : szT Tryz.prog 70 = 20 := by kernel_rfl
theorem bT70 : byT Tryz.prog 70 = 144 := by kernel_rfl
theorem zT70 : zT Tryz.prog 70 = some [.i 0, .i 0, .u 0#64, .u 0#64, .i 0, .i 0, .i 0, .u 0#64, .u 0#64, .b false, .i 0, .b false, .b false, .b false, .u 0#64, .i 0, .i 0, .u 0#64, .i 0, .u 0#64] := by kernel_rfl
theorem gT70 : tagsT Tryz.prog 12 70 = some [.n, .n, .n, .n, .n, .n, .n, .n, .n, .q, .n, .q, .q, .q, .n, .n, .n, .n, .n, .n] := by kernel_rfl
theorem eqT70 {a b : List Sc} : abin Tryz.prog .eql 70 (.g a) (.g b) = (csEq [.n, .n, .n, .n, .n, .n, .n, .n, .n, .q, .n, .q, .q, .q, .n, .n, .n, .n, .n, .n] a b).bind (eqU .eql) := ab_g_eql _ (by simp only [dT70, D.agg]) gT70
theorem neT70 {a b : List Sc} : abin Tryz.prog .neq 70 (.g a) (.g b) = (csEq [.n, .n, .n, .n, .n, .n, .n, .n, .n, .q, .n, .q, .q, .q, .n, .n, .n, .n, .n, .n] a b).bind (eqU .neq) := ab_g_neq _ (by simp only [dT70, D.agg]) gT70
theorem dT71 : dT Tryz.prog 71 = .st [(0, 4), (1, 22)] := by kernel_rfl
theorem sT71 : szT Tryz.prog 71 = 2 := by kernel_rfl
theorem bT71 : byT Tryz.prog 71 = 16 := by kernel_rfl
theorem zT71 : zT Tryz.prog 71 = some [.b false, .u 0#64] := by kernel_rfl
theorem dT72 : dT Tryz.prog 72 = .st [(0, 4), (1, 22)] := by kernel_rfl
theorem sT72 : szT Tryz.prog 72 = 2 := by kernel_rfl
theorem bT72 : byT Tryz.prog 72 = 16 := by kernel_rfl
theorem zT72 : zT Tryz.prog 72 = some [.b false, .u 0#64] := by kernel_rfl
theorem gT72 : tagsT Tryz.prog 12 72 = some [.q, .n] := by kernel_rfl
theorem eqT72 {a b : List Sc} : abin Tryz.prog .eql 72 (.g a) (.g b) = (csEq [.q, .n] a b).bind (eqU .eql) := ab_g_eql _ (by simp only [dT72, D.agg]) gT72
theorem neT72 {a b : List Sc} : abin Tryz.prog .neq 72 (.g a) (.g b) = (csEq [.q, .n] a b).bind (eqU .neq) := ab_g_neq _ (by simp only [dT72, D.agg]) gT72
theorem dT73 : dT Tryz.prog 73 = .arr 8 72 := by kernel_rfl
theorem sT73 : szT Tryz.prog 73 = 16 := by kernel_rfl
theorem bT73 : byT Tryz.prog 73 = 128 := by kernel_rfl
theorem zT73 : zT Tryz.prog 73 = some [.b false, .u 0#64, .b false, .u 0#64, .b false, .u 0#64, .b false, .u 0#64, .b false, .u 0#64, .b false, .u 0#64, .b false, .u 0#64, .b false, .u 0#64] := by kernel_rfl
theorem gT73 : tagsT Tryz.prog 12 73 = some [.q, .n, .q, .n, .q, .n, .q, .n, .q, .n, .q, .n, .q, .n, .q, .n] := by kernel_rfl
theorem eqT73 {a b : List Sc} : abin Tryz.prog .eql 73 (.g a) (.g b) = (csEq [.q, .n, .q, .n, .q, .n, .q, .n, .q, .n, .q, .n, .q, .n, .q, .n] a b).bind (eqU .eql) := ab_g_eql _ (by simp only [dT73, D.agg]) gT73
theorem neT73 {a b : List Sc} : abin Tryz.prog .neq 73 (.g a) (.g b) = (csEq [.q, .n, .q, .n, .q, .n, .q, .n, .q, .n, .q, .n, .q, .n, .q, .n] a b).bind (eqU .neq) := ab_g_neq _ (by simp only [dT73, D.agg]) gT73
theorem dT74 : dT Tryz.prog 74 = .st [(0, 73)] := by kernel_rfl
theorem sT74 : szT Tryz.prog 74 = 16 := by kernel_rfl
theorem bT74 : byT Tryz.prog 74 = 128 := by kernel_rfl
theorem zT74 : zT Tryz.prog 74 = some [.b false, .u 0#64, .b false, .u 0#64, .b false, .u 0#64, .b false, .u 0#64, .b false, .u 0#64, .b false, .u 0#64, .b false, .u 0#64, .b false, .u 0#64] := by kernel_rfl
theorem dT75 : dT Tryz.prog 75 = .st [(0, 73)] := by kernel_rfl
theorem sT75 : szT Tryz.prog 75 = 16 := by kernel_rfl
theorem bT75 : byT Tryz.prog 75 = 128 := by kernel_rfl
theorem zT75 : zT Tryz.prog 75 = some [.b false, .u 0#64, .b false, .u 0#64, .b false, .u 0#64, .b false, .u 0#64, .b false, .u 0#64, .b false, .u 0#64, .b false, .u 0#64, .b false, .u 0#64] := by kernel_rfl
theorem gT75 : tagsT Tryz.prog 12 75 = some [.q, .n, .q, .n, .q, .n, .q, .n, .q, .n, .q, .n, .q, .n, .q, .n] := by kernel_rfl
theorem eqT75 {a b : List Sc} : abin Tryz.prog .eql 75 (.g a) (.g b) = (csEq [.q, .n, .q, .n, .q, .n, .q, .n, .q, .n, .q, .n, .q, .n, .q, .n] a b).bind (eqU .eql) := ab_g_eql _ (by simp only [dT75, D.agg]) gT75
theorem neT75 {a b : List Sc} : abin Tryz.prog .neq 75 (.g a) (.g b) = (csEq [.q, .n, .q, .n, .q, .n, .q, .n, .q, .n, .q, .n, .q, .n, .q, .n] a b).bind (eqU .neq) := ab_g_neq _ (by simp only [dT75, D.agg]) gT75
theorem dT76 : dT Tryz.prog 76 = .other := by kernel_rfl
theorem sT76 : szT Tryz.prog 76 = 1 := by kernel_rfl
theorem bT76 : byT Tryz.prog 76 = 8 := by kernel_rfl
theorem zT76 : zT Tryz.prog 76 = some [.nilf] := by kernel_rfl
theorem eql1T76 {f : Nat} {c : List (Nat × Nat × Nat)}  : abin Tryz.prog .eql 76 (.c (.f f c)) (.c .nilf) = some (.c (.b false)) := by kernel_rfl
theorem eql2T76 : abin Tryz.prog .eql 76 (.c .nilf) (.c .nilf) = some (.c (.b true)) := by kernel_rfl
theorem neq1T76 {f : Nat} {c : List (Nat × Nat × Nat)}  : abin Tryz.prog .neq 76 (.c (.f f c)) (.c .nilf) = some (.c (.b true)) := by kernel_rfl
theorem neq2T76 : abin Tryz.prog .neq 76 (.c .nilf) (.c .nilf) = some (.c (.b false)) := by kernel_rfl
theorem dT77 : dT Tryz.prog 77 = .ptr 163 := by kernel_rfl
theorem sT77 : szT Tryz.prog 77 = 1 := by kernel_rfl
theorem bT77 : byT Tryz.prog 77 = 8 := by kernel_rfl
theorem zT77 : zT Tryz.prog 77 = some [.nilp] := by kernel_rfl
theorem eql1T77 {a b c : Nat}  : abin Tryz.prog .eql 77 (.c (.p a b c)) (.c .nilp) = some (.c (.b false)) := by kernel_rfl
theorem eql2T77 : abin Tryz.prog .eql 77 (.c .nilp) (.c .nilp) = some (.c (.b true)) := by kernel_rfl
theorem neq1T77 {a b c : Nat}  : abin Tryz.prog .neq 77 (.c (.p a b c)) (.c .nilp) = some (.c (.b true)) := by kernel_rfl
theorem neq2T77 : abin Tryz.prog .neq 77 (.c .nilp) (.c .nilp) = some (.c (.b false)) := by kernel_rfl
theorem dT78 : dT Tryz.prog 78 = .other := by kernel_rfl
theorem sT78 : szT Tryz.prog 78 = 1 := by kernel_rfl
theorem bT78 : byT Tryz.prog 78 = 8 := by kernel_rfl
theorem zT78 : zT Tryz.prog 78 = some [.nilf] := by kernel_rfl
theorem eql1T78 {f : Nat} {c : List (Nat × Nat × Nat)}  : abin Tryz.prog .eql 78 (.c (.f f c)) (.c .nilf) = some (.c (.b false)) := by kernel_rfl
theorem eql2T78 : abin Tryz.prog .eql 78 (.c .nilf) (.c .nilf) = some (.c (.b true)) := by kernel_rfl
theorem neq1T78 {f : Nat} {c : List (Nat × Nat × Nat)}  : abin Tryz.prog .neq 78 (.c (.f f c)) (.c .nilf) = some (.c (.b true)) := by kernel_rfl
theorem neq2T78 : abin Tryz.prog .neq 78 (.c .nilf) (.c .nilf) = some (.c (.b false)) := by kernel_rfl
theorem dT79 : dT Tryz.prog 79 = .other := by kernel_rfl
theorem sT79 : szT Tryz.prog 79 = 1 := by kernel_rfl
theorem bT79 : byT Tryz.prog 79 = 8 := by kernel_rfl
theorem zT79 : zT Tryz.prog 79 = some [.nilf] := by kernel_rfl
theorem eql1T79 {f : Nat} {c : List (Nat × Nat × Nat)}  : abin Tryz.prog .eql 79 (.c (.f f c)) (.c .nilf) = some (.c (.b false)) := by kernel_rfl
theorem eql2T79 : abin Tryz.prog .eql 79 (.c .nilf) (.c .nilf) = some (.c (.b true)) := by kernel_rfl
theorem neq1T79 {f : Nat} {c : List (Nat × Nat × Nat)}  : abin Tryz.prog .neq 79 (.c (.f f c)) (.c .nilf) = some (.c (.b true)) := by kernel_rfl
theorem neq2T79 : abin Tryz.prog .neq 79 (.c .nilf) (.c .nilf) = some (.c (.b false)) := by kernel_rfl
theorem dT80 : dT Tryz.prog 80 = .other := by kernel_rfl
theorem sT80 : szT Tryz.prog 80 = 1 := by kernel_rfl
theorem bT80 : byT Tryz.prog 80 = 8 := by kernel_rfl
theorem zT80 : zT Tryz.prog 80 = some [.nilf] := by kernel_rfl
theorem eql1T80 {f : Nat} {c : List (Nat × Nat × Nat)}  : abin Tryz.prog .eql 80 (.c (.f f c)) (.c .nilf) = some (.c (.b false)) := by kernel_rfl
theorem eql2T80 : abin Tryz.prog .eql 80 (.c .nilf) (.c .nilf) = some (.c (.b true)) := by kernel_rfl
theorem neq1T80 {f : Nat} {c : List (Nat × Nat × Nat)}  : abin Tryz.prog .neq 80 (.c (.f f c)) (.c .nilf) = some (.c (.b true)) := by kernel_rfl
theorem neq2T80 : abin Tryz.prog .neq 80 (.c .nilf) (.c .nilf) = some (.c (.b false)) := by kernel_rfl
theorem dT81 : dT Tryz.prog 81 = .other := by kernel_rfl
theorem sT81 : szT Tryz.prog 81 = 1 := by kernel_rfl
theorem bT81 : byT Tryz.prog 81 = 8 := by kernel_rfl
theorem zT81 : zT Tryz.prog 81 = some [.nilf] := by kernel_rfl
theorem eql1T81 {f : Nat} {c : List (Nat × Nat × Nat)}  : abin Tryz.prog .eql 81 (.c (.f f c)) (.c .nilf) = some (.c (.b false)) := by kernel_rfl
theorem eql2T81 : abin Tryz.prog .eql 81 (.c .nilf) (.c .nilf) = some (.c (.b true)) := by kernel_rfl
theorem neq1T81 {f : Nat} {c : List (Nat × Nat × Nat)}  : abin Tryz.prog .neq 81 (.c (.f f c)) (.c .nilf) = some (.c (.b true)) := by kernel_rfl
theorem neq2T81 : abin Tryz.prog .neq 81 (.c .nilf) (.c .nilf) = some (.c (.b false)) := by kernel_rfl
theorem dT82 : dT Tryz.prog 82 = .st [(0, 4), (1, 22)] := by kernel_rfl
theorem sT82 : szT Tryz.prog 82 = 2 := by kernel_rfl
theorem bT82 : byT Tryz.prog 82 = 16 := by kernel_rfl
theorem zT82 : zT Tryz.prog 82 = some [.b false, .u 0#64] := by kernel_rfl
theorem dT83 : dT Tryz.prog 83 = .st [(0, 4), (1, 22)] := by kernel_rfl
theorem sT83 : szT Tryz.prog 83 = 2 := by kernel_rfl
theorem bT83 : byT Tryz.prog 83 = 16 := by kernel_rfl
theorem zT83 : zT Tryz.prog 83 = some [.b false, .u 0#64] := by kernel_rfl
theorem gT83 : tagsT Tryz.prog 12 83 = some [.q, .n] := by kernel_rfl
theorem eqT83 {a b : List Sc} : abin Tryz.prog .eql 83 (.g a) (.g b) = (csEq [.q, .n] a b).bind (eqU .eql) := ab_g_eql _ (by simp only [dT83, D.agg]) gT83
theorem neT83 {a b : List Sc} : abin Tryz.prog .neq 83 (.g a) (.g b) = (csEq [.q, .n] a b).bind (eqU .neq) := ab_g_neq _ (by simp only [dT83, D.agg]) gT83
theorem dT84 : dT Tryz.prog 84 = .arr 8 83 := by kernel_rfl
theorem sT84 : szT Tryz.prog 84 = 16 := by kernel_rfl
theorem bT84 : byT Tryz.prog 84 = 128 := by kernel_rfl
theorem zT84 : zT Tryz.prog 84 = some [.b false, .u 0#64, .b false, .u 0#64, .b false, .u 0#64, .b false, .u 0#64, .b false, .u 0#64, .b false, .u 0#64, .b false, .u 0#64, .b false, .u 0#64] := by kernel_rfl
theorem gT84 : tagsT Tryz.prog 12 84 = some [.q, .n, .q, .n, .q, .n, .q, .n, .q, .n, .q, .n, .q, .n, .q, .n] := by kernel_rfl
theorem eqT84 {a b : List Sc} : abin Tryz.prog .eql 84 (.g a) (.g b) = (csEq [.q, .n, .q, .n, .q, .n, .q, .n, .q, .n, .q, .n, .q, .n, .q, .n] a b).bind (eqU .eql) := ab_g_eql _ (by simp only [dT84, D.agg]) gT84
theorem neT84 {a b : List Sc} : abin Tryz.prog .neq 84 (.g a) (.g b) = (csEq [.q, .n, .q, .n, .q, .n, .q, .n, .q, .n, .q, .n, .q, .n, .q, .n] a b).bind (eqU .neq) := ab_g_neq _ (by simp only [dT84, D.agg]) gT84
theorem dT85 : dT Tryz.prog 85 = .arr 8 32 := by kernel_rfl
theorem sT85 : szT Tryz.prog 85 = 320 := by kernel_rfl
theorem bT85 : byT Tryz.prog 85 = 1536 := by kernel_rfl
theorem dT86 : dT Tryz.prog 86 = .st [(0, 3), (1, 85)] := by kernel_rfl
theorem sT86 : szT Tryz.prog 86 = 321 := by kernel_rfl
theorem bT86 : byT Tryz.prog 86 = 1544 := by kernel_rfl
theorem dT87 : dT Tryz.prog 87 = .st [(0, 3), (1, 85)] := by kernel_rfl
theorem sT87 : szT Tryz.prog 87 = 321 := by kernel_rfl
theorem bT87 : byT Tryz.prog 87 = 1544 := by kernel_rfl
theorem dT88 : dT Tryz.prog 88 = .st [(0, 50), (4, 23), (5, 84), (21, 45), (22, 87)] := by kernel_rfl
theorem sT88 : szT Tryz.prog 88 = 343 := by kernel_rfl
theorem bT88 : byT Tryz.prog 88 = 1736 := by kernel_rfl
theorem dT89 : dT Tryz.prog 89 = .st [(0, 50), (4, 23), (5, 84), (21, 45), (22, 87)] := by kernel_rfl
theorem sT89 : szT Tryz.prog 89 = 343 := by kernel_rfl
theorem bT89 : byT Tryz.prog 89 = 1736 := by kernel_rfl
theorem dT90 : dT Tryz.prog 90 = .other := by kernel_rfl
theorem sT90 : szT Tryz.prog 90 = 1 := by kernel_rfl
theorem bT90 : byT Tryz.prog 90 = 8 := by kernel_rfl
theorem zT90 : zT Tryz.prog 90 = some [.nilf] := by kernel_rfl
theorem eql1T90 {f : Nat} {c : List (Nat × Nat × Nat)}  : abin Tryz.prog .eql 90 (.c (.f f c)) (.c .nilf) = some (.c (.b false)) := by kernel_rfl
theorem eql2T90 : abin Tryz.prog .eql 90 (.c .nilf) (.c .nilf) = some (.c (.b true)) := by kernel_rfl
theorem neq1T90 {f : Nat} {c : List (Nat × Nat × Nat)}  : abin Tryz.prog .neq 90 (.c (.f f c)) (.c .nilf) = some (.c (.b true)) := by kernel_rfl
theorem neq2T90 : abin Tryz.prog .neq 90 (.c .nilf) (.c .nilf) = some (.c (.b false)) := by kernel_rfl
theorem dT91 : dT Tryz.prog 91 = .sl 93 := by kernel_rfl
theorem sT91 : szT Tryz.prog 91 = 1 := by kernel_rfl
theorem bT91 : byT Tryz.prog 91 = 24 := by kernel_rfl
theorem zT91 : zT Tryz.prog 91 = some [.nils] := by kernel_rfl
theorem eql1T91 {a b c n : Nat}  : abin Tryz.prog .eql 91 (.c (.sl a b c n)) (.c .nils) = if n = 0 then some (.c .qq) else some (.c (.b false)) := by kernel_rfl
theorem eql2T91 : abin Tryz.prog .eql 91 (.c .nils) (.c .nils) = some (.c (.b true)) := by kernel_rfl
theorem neq1T91 {a b c n : Nat}  : abin Tryz.prog .neq 91 (.c (.sl a b c n)) (.c .nils) = if n = 0 then some (.c .qq) else some (.c (.b true)) := by kernel_rfl
theorem neq2T91 : abin Tryz.prog .neq 91 (.c .nils) (.c .nils) = some (.c (.b false)) := by kernel_rfl
theorem dT92 : dT Tryz.prog 92 = .st [(0, 3), (1, 42), (20, 34), (62, 3), (63, 3), (64, 3)] := by kernel_rfl
theorem sT92 : szT Tryz.prog 92 = 65 := by kernel_rfl
theorem bT92 : byT Tryz.prog 92 = 376 := by kernel_rfl
theorem zT92 : zT Tryz.prog 92 = some [.i 0, .i 0, .u 0#64, .u 0#64, .i 0, .i 0, .i 0, .u 0#64, .u 0#64, .b false, .i 0, .b false, .b false, .b false, .u 0#64, .i 0, .i 0, .u 0#64, .i 0, .u 0#64, .u 0#64, .b false, .b false, .b false, .b false, .u 0#64, .i 0, .b false, .b false, .b false, .u 0#64, .i 0, .b false, .b false, .b false, .u 0#64, .i 0, .b false, .b false, .b false, .u 0#64, .i 0, .b false, .b false, .b false, .u 0#64, .i 0, .b false, .b false, .b false, .u 0#64, .i 0, .b false, .b false, .b false, .u 0#64, .i 0, .b false, .b false, .b false, .u 0#64, .i 0, .i 0, .i 0, .i 0] := by kernel_rfl
theorem dT93 : dT Tryz.prog 93 = .st [(0, 3), (1, 42), (20, 34), (62, 3), (63, 3), (64, 3)] := by kernel_rfl
theorem sT93 : szT Tryz.prog 93 = 65 := by kernel_rfl
theorem bT93 : byT Tryz.prog 93 = 376 := by kernel_rfl
theorem zT93 : zT Tryz.prog 93 = some [.i 0, .i 0, .u 0#64, .u 0#64, .i 0, .i 0, .i 0, .u 0#64, .u 0#64, .b false, .i 0, .b false, .b false, .b false, .u 0#64, .i 0, .i 0, .u 0#64, .i 0, .u 0#64, .u 0#64, .b false, .b false, .b false, .b false, .u 0#64, .i 0, .b false, .b false, .b false, .u 0#64, .i 0, .b false, .b false, .b false, .u 0#64, .i 0, .b false, .b false, .b false, .u 0#64, .i 0, .b false, .b false, .b false, .u 0#64, .i 0, .b false, .b false, .b false, .u 0#64, .i 0, .b false, .b false, .b false, .u 0#64, .i 0, .b false, .b false, .b false, .u 0#64, .i 0, .i 0, .i 0, .i 0] := by kernel_rfl
theorem dT94 : dT Tryz.prog 94 = .other := by kernel_rfl
theorem sT94 : szT Tryz.prog 94 = 1 := by kernel_rfl
theorem bT94 : byT Tryz.prog 94 = 8 := by kernel_rfl
theorem zT94 : zT Tryz.prog 94 = some [.nilf] := by kernel_rfl
theorem eql1T94 {f : Nat} {c : List (Nat × Nat × Nat)}  : abin Tryz.prog .eql 94 (.c (.f f c)) (.c .nilf) = some (.c (.b false)) := by kernel_rfl
theorem eql2T94 : abin Tryz.prog .eql 94 (.c .nilf) (.c .nilf) = some (.c (.b true)) := by kernel_rfl
theorem neq1T94 {f : Nat} {c : List (Nat × Nat × Nat)}  : abin Tryz.prog .neq 94 (.c (.f f c)) (.c .nilf) = some (.c (.b true)) := by kernel_rfl
theorem neq2T94 : abin Tryz.prog .neq 94 (.c .nilf) (.c .nilf) = some (.c (.b false)) := by kernel_rfl
theorem dT95 : dT Tryz.prog 95 = .other := by kernel_rfl
theorem sT95 : szT Tryz.prog 95 = 1 := by kernel_rfl
theorem bT95 : byT Tryz.prog 95 = 8 := by kernel_rfl
theorem zT95 : zT Tryz.prog 95 = some [.nilf] := by kernel_rfl
theorem eql1T95 {f : Nat} {c : List (Nat × Nat × Nat)}  : abin Tryz.prog .eql 95 (.c (.f f c)) (.c .nilf) = some (.c (.b false)) := by kernel_rfl
theorem eql2T95 : abin Tryz.prog .eql 95 (.c .nilf) (.c .nilf) = some (.c (.b true)) := by kernel_rfl
theorem neq1T95 {f : Nat} {c : List (Nat × Nat × Nat)}  : abin Tryz.prog .neq 95 (.c (.f f c)) (.c .nilf) = some (.c (.b true)) := by kernel_rfl
theorem neq2T95 : abin Tryz.prog .neq 95 (.c .nilf) (.c .nilf) = some (.c (.b false)) := by kernel_rfl
theorem dT96 : dT Tryz.prog 96 = .other := by kernel_rfl
theorem sT96 : szT Tryz.prog 96 = 1 := by kernel_rfl
theorem bT96 : byT Tryz.prog 96 = 8 := by kernel_rfl
theorem zT96 : zT Tryz.prog 96 = some [.nilf] := by kernel_rfl
theorem eql1T96 {f : Nat} {c : List (Nat × Nat × Nat)}  : abin Tryz.prog .eql 96 (.c (.f f c)) (.c .nilf) = some (.c (.b false)) := by kernel_rfl
theorem eql2T96 : abin Tryz.prog .eql 96 (.c .nilf) (.c .nilf) = some (.c (.b true)) := by kernel_rfl
theorem neq1T96 {f : Nat} {c : List (Nat × Nat × Nat)}  : abin Tryz.prog .neq 96 (.c (.f f c)) (.c .nilf) = some (.c (.b true)) := by kernel_rfl
theorem neq2T96 : abin Tryz.prog .neq 96 (.c .nilf) (.c .nilf) = some (.c (.b false)) := by kernel_rfl
theorem dT97 : dT Tryz.prog 97 = .other := by kernel_rfl
theorem sT97 : szT Tryz.prog 97 = 1 := by kernel_rfl
theorem bT97 : byT Tryz.prog 97 = 8 := by kernel_rfl
theorem zT97 : zT Tryz.prog 97 = some [.nilf] := by kernel_rfl
theorem eql1T97 {f : Nat} {c : List (Nat × Nat × Nat)}  : abin Tryz.prog .eql 97 (.c (.f f c)) (.c .nilf) = some (.c (.b false)) := by kernel_rfl
theorem eql2T97 : abin Tryz.prog .eql 97 (.c .nilf) (.c .nilf) = some (.c (.b true)) := by kernel_rfl
theorem neq1T97 {f : Nat} {c : List (Nat × Nat × Nat)}  : abin Tryz.prog .neq 97 (.c (.f f c)) (.c .nilf) = some (.c (.b true)) := by kernel_rfl
theorem neq2T97 : abin Tryz.prog .neq 97 (.c .nilf) (.c .nilf) = some (.c (.b false)) := by kernel_rfl
theorem dT98 : dT Tryz.prog 98 = .other := by kernel_rfl
theorem sT98 : szT Tryz.prog 98 = 1 := by kernel_rfl
theorem bT98 : byT Tryz.prog 98 = 8 := by kernel_rfl
theorem zT98 : zT Tryz.prog 98 = some [.nilf] := by kernel_rfl
theorem eql1T98 {f : Nat} {c : List (Nat × Nat × Nat)}  : abin Tryz.prog .eql 98 (.c (.f f c)) (.c .nilf) = some (.c (.b false)) := by kernel_rfl
theorem eql2T98 : abin Tryz.prog .eql 98 (.c .nilf) (.c .nilf) = some (.c (.b true)) := by kernel_rfl
theorem neq1T98 {f : Nat} {c : List (Nat × Nat × Nat)}  : abin Tryz.prog .neq 98 (.c (.f f c)) (.c .nilf) = some (.c (.b true)) := by kernel_rfl
theorem neq2T98 : abin Tryz.prog .neq 98 (.c .nilf) (.c .nilf) = some (.c (.b false)) := by kernel_rfl
theorem dT100 : dT Tryz.prog 100 = .other := by kernel_rfl
theorem sT100 : szT Tryz.prog 100 = 1 := by kernel_rfl
theorem bT100 : byT Tryz.prog 100 = 8 := by kernel_rfl
theorem zT100 : zT Tryz.prog 100 = some [.nilf] := by kernel_rfl
theorem eql1T100 {f : Nat} {c : List (Nat × Nat × Nat)}  : abin Tryz.prog .eql 100 (.c (.f f c)) (.c .nilf) = some (.c (.b false)) := by kernel_rfl
theorem eql2T100 : abin Tryz.prog .eql 100 (.c .nilf) (.c .nilf) = some (.c (.b true)) := by kernel_rfl
theorem neq1T100 {f : Nat} {c : List (Nat × Nat × Nat)}  : abin Tryz.prog .neq 100 (.c (.f f c)) (.c .nilf) = some (.c (.b true)) := by kernel_rfl
theorem neq2T100 : abin Tryz.prog .neq 100 (.c .nilf) (.c .nilf) = some (.c (.b false)) := by kernel_rfl
theorem dT102 : dT Tryz.prog 102 = .other := by kernel_rfl
theorem sT102 : szT Tryz.prog 102 = 1 := by kernel_rfl
theorem bT102 : byT Tryz.prog 102 = 8 := by kernel_rfl
theorem zT102 : zT Tryz.prog 102 = some [.nilf] := by kernel_rfl
theorem eql1T102 {f : Nat} {c : List (Nat × Nat × Nat)}  : abin Tryz.prog .eql 102 (.c (.f f c)) (.c .nilf) = some (.c (.b false)) := by kernel_rfl
theorem eql2T102 : abin Tryz.prog .eql 102 (.c .nilf) (.c .nilf) = some (.c (.b true)) := by kernel_rfl
theorem neq1T102 {f : Nat} {c : List (Nat × Nat × Nat)}  : abin Tryz.prog .neq 102 (.c (.f f c)) (.c .nilf) = some (.c (.b true)) := by kernel_rfl
theorem neq2T102 : abin Tryz.prog .neq 102 (.c .nilf) (.c .nilf) = some (.c (.b false)) := by kernel_rfl
theorem dT103 : dT Tryz.prog 103 = .other := by kernel_rfl
theorem sT103 : szT Tryz.prog 103 = 1 := by kernel_rfl
theorem bT103 : byT Tryz.prog 103 = 8 := by kernel_rfl
theorem zT103 : zT Tryz.prog 103 = some [.nilf] := by kernel_rfl
theorem eql1T103 {f : Nat} {c : List (Nat × Nat × Nat)}  : abin Tryz.prog .eql 103 (.c (.f f c)) (.c .nilf) = some (.c (.b false)) := by kernel_rfl
theorem eql2T103 : abin Tryz.prog .eql 103 (.c .nilf) (.c .nilf) = some (.c (.b true)) := by kernel_rfl
theorem neq1T103 {f : Nat} {c : List (Nat × Nat × Nat)}  : abin Tryz.prog .neq 103 (.c (.f f c)) (.c .nilf) = some (.c (.b true)) := by kernel_rfl
theorem neq2T103 : abin Tryz.prog .neq 103 (.c .nilf) (.c .nilf) = some (.c (.b false)) := by kernel_rfl
theorem dT104 : dT Tryz.prog 104 = .other := by kernel_rfl
theorem sT104 : szT Tryz.prog 104 = 1 := by kernel_rfl
theorem bT104 : byT Tryz.prog 104 = 8 := by kernel_rfl
theorem zT104 : zT Tryz.prog 104 = some [.nilf] := by kernel_rfl
theorem eql1T104 {f : Nat} {c : List (Nat × Nat × Nat)}  : abin Tryz.prog .eql 104 (.c (.f f c)) (.c .nilf) = some (.c (.b false)) := by kernel_rfl
theorem eql2T104 : abin Tryz.prog .eql 104 (.c .nilf) (.c .nilf) = some (.c (.b true)) := by kernel_rfl
theorem neq1T104 {f : Nat} {c : List (Nat × Nat × Nat)}  : abin Tryz.prog .neq 104 (.c (.f f c)) (.c .nilf) = some (.c (.b true)) := by kernel_rfl
theorem neq2T104 : abin Tryz.prog .neq 104 (.c .nilf) (.c .nilf) = some (.c (.b false)) := by kernel_rfl
theorem dT106 : dT Tryz.prog 106 = .other := by kernel_rfl
theorem sT106 : szT Tryz.prog 106 = 1 := by kernel_rfl
theorem bT106 : byT Tryz.prog 106 = 8 := by kernel_rfl
theorem zT106 : zT Tryz.prog 106 = some [.nilf] := by kernel_rfl
theorem eql1T106 {f : Nat} {c : List (Nat × Nat × Nat)}  : abin Tryz.prog .eql 106 (.c (.f f c)) (.c .nilf) = some (.c (.b false)) := by kernel_rfl
theorem eql2T106 : abin Tryz.prog .eql 106 (.c .nilf) (.c .nilf) = some (.c (.b true)) := by kernel_rfl
theorem neq1T106 {f : Nat} {c : List (Nat × Nat × Nat)}  : abin Tryz.prog .neq 106 (.c (.f f c)) (.c .nilf) = some (.c (.b true)) := by kernel_rfl
theorem neq2T106 : abin Tryz.prog .neq 106 (.c .nilf) (.c .nilf) = some (.c (.b false)) := by kernel_rfl
theorem dT107 : dT Tryz.prog 107 = .st [(0, 77)] := by kernel_rfl
theorem sT107 : szT Tryz.prog 107 = 1 := by kernel_rfl
theorem bT107 : byT Tryz.prog 107 = 8 := by kernel_rfl
theorem zT107 : zT Tryz.prog 107 = some [.nilp] := by kernel_rfl
theorem dT108 : dT Tryz.prog 108 = .st [(0, 77)] := by kernel_rfl
theorem sT108 : szT Tryz.prog 108 = 1 := by kernel_rfl
theorem bT108 : byT Tryz.prog 108 = 8 := by kernel_rfl
theorem zT108 : zT Tryz.prog 108 = some [.nilp] := by kernel_rfl
theorem dT109 : dT Tryz.prog 109 = .st [(0, 108), (1, 50), (5, 75)] := by kernel_rfl
theorem sT109 : szT Tryz.prog 109 = 21 := by kernel_rfl
theorem bT109 : byT Tryz.prog 109 = 168 := by kernel_rfl
theorem zT109 : zT Tryz.prog 109 = some [.nilp, .i 0, .i 0, .i 0, .i 0, .b false, .u 0#64, .b false, .u 0#64, .b false, .u 0#64, .b false, .u 0#64, .b false, .u 0#64, .b false, .u 0#64, .b false, .u 0#64, .b false, .u 0#64] := by kernel_rfl
theorem dT110 : dT Tryz.prog 110 = .st [(0, 108), (1, 50), (5, 75)] := by kernel_rfl
theorem sT110 : szT Tryz.prog 110 = 21 := by kernel_rfl
theorem bT110 : byT Tryz.prog 110 = 168 := by kernel_rfl
theorem zT110 : zT Tryz.prog 110 = some [.nilp, .i 0, .i 0, .i 0, .i 0, .b false, .u 0#64, .b false, .u 0#64, .b false, .u 0#64, .b false, .u 0#64, .b false, .u 0#64, .b false, .u 0#64, .b false, .u 0#64, .b false, .u 0#64] := by kernel_rfl
theorem dT111 : dT Tryz.prog 111 = .other := by kernel_rfl
theorem sT111 : szT Tryz.prog 111 = 1 := by kernel_rfl
theorem bT111 : byT Tryz.prog 111 = 8 := by kernel_rfl
theorem zT111 : zT Tryz.prog 111 = some [.nilf] := by kernel_rfl
theorem eql1T111 {f : Nat} {c : List (Nat × Nat × Nat)}  : abin Tryz.prog .eql 111 (.c (.f f c)) (.c .nilf) = some (.c (.b false)) := by kernel_rfl
theorem eql2T111 : abin Tryz.prog .eql 111 (.c .nilf) (.c .nilf) = some (.c (.b true)) := by kernel_rfl
theorem neq1T111 {f : Nat} {c : List (Nat × Nat × Nat)}  : abin Tryz.prog .neq 111 (.c (.f f c)) (.c .nilf) = some (.c (.b true)) := by kernel_rfl
theorem neq2T111 : abin Tryz.prog .neq 111 (.c .nilf) (.c .nilf) = some (.c (.b false)) := by kernel_rfl
theorem dT112 : dT Tryz.prog 112 = .other := by kernel_rfl
theorem sT112 : szT Tryz.prog 112 = 1 := by kernel_rfl
theorem bT112 : byT Tryz.prog 112 = 8 := by kernel_rfl
theorem zT112 : zT Tryz.prog 112 = some [.nilf] := by kernel_rfl
theorem eql1T112 {f : Nat} {c : List (Nat × Nat × Nat)}  : abin Tryz.prog .eql 112 (.c (.f f c)) (.c .nilf) = some (.c (.b false)) := by kernel_rfl
theorem eql2T112 : abin Tryz.prog .eql 112 (.c .nilf) (.c .nilf) = some (.c (.b true)) := by kernel_rfl
theorem neq1T112 {f : Nat} {c : List (Nat × Nat × Nat)}  : abin Tryz.prog .neq 112 (.c (.f f c)) (.c .nilf) = some (.c (.b true)) := by kernel_rfl
theorem neq2T112 : abin Tryz.prog .neq 112 (.c .nilf) (.c .nilf) = some (.c (.b false)) := by kernel_rfl
theorem dT113 : dT Tryz.prog 113 = .other := by kernel_rfl
theorem sT113 : szT Tryz.prog 113 = 1 := by kernel_rfl
theorem bT113 : byT Tryz.prog 113 = 8 := by kernel_rfl
theorem zT113 : zT Tryz.prog 113 = some [.nilf] := by kernel_rfl
theorem eql1T113 {f : Nat} {c : List (Nat × Nat × Nat)}  : abin Tryz.prog .eql 113 (.c (.f f c)) (.c .nilf) = some (.c (.b false)) := by kernel_rfl
theorem eql2T113 : abin Tryz.prog .eql 113 (.c .nilf) (.c .nilf) = some (.c (.b true)) := by kernel_rfl
theorem neq1T113 {f : Nat} {c : List (Nat × Nat × Nat)}  : abin Tryz.prog .neq 113 (.c (.f f c)) (.c .nilf) = some (.c (.b true)) := by kernel_rfl
theorem neq2T113 : abin Tryz.prog .neq 113 (.c .nilf) (.c .nilf) = some (.c (.b false)) := by kernel_rfl
theorem dT114 : dT Tryz.prog 114 = .other := by kernel_rfl
theorem sT114 : szT Tryz.prog 114 = 1 := by kernel_rfl
theorem bT114 : byT Tryz.prog 114 = 8 := by kernel_rfl
theorem zT114 : zT Tryz.prog 114 = some [.nilf] := by kernel_rfl
theorem eql1T114 {f : Nat} {c : List (Nat × Nat × Nat)}  : abin Tryz.prog .eql 114 (.c (.f f c)) (.c .nilf) = some (.c (.b false)) := by kernel_rfl
theorem eql2T114 : abin Tryz.prog .eql 114 (.c .nilf) (.c .nilf) = some (.c (.b true)) := by kernel_rfl
theorem neq1T114 {f : Nat} {c : List (Nat × Nat × Nat)}  : abin Tryz.prog .neq 114 (.c (.f f c)) (.c .nilf) = some (.c (.b true)) := by kernel_rfl
theorem neq2T114 : abin Tryz.prog .neq 114 (.c .nilf) (.c .nilf) = some (.c (.b false)) := by kernel_rfl
theorem dT115 : dT Tryz.prog 115 = .other := by kernel_rfl
theorem sT115 : szT Tryz.prog 115 = 1 := by kernel_rfl
theorem bT115 : byT Tryz.prog 115 = 8 := by kernel_rfl
theorem zT115 : zT Tryz.prog 115 = some [.nilf] := by kernel_rfl
theorem eql1T115 {f : Nat} {c : List (Nat × Nat × Nat)}  : abin Tryz.prog .eql 115 (.c (.f f c)) (.c .nilf) = some (.c (.b false)) := by kernel_rfl
theorem eql2T115 : abin Tryz.prog .eql 115 (.c .nilf) (.c .nilf) = some (.c (.b true)) := by kernel_rfl
theorem neq1T115 {f : Nat} {c : List (Nat × Nat × Nat)}  : abin Tryz.prog .neq 115 (.c (.f f c)) (.c .nilf) = some (.c (.b true)) := by kernel_rfl
theorem neq2T115 : abin Tryz.prog .neq 115 (.c .nilf) (.c .nilf) = some (.c (.b false)) := by kernel_rfl
theorem dT116 : dT Tryz.prog 116 = .ptr 75 := by kernel_rfl
theorem sT116 : szT Tryz.prog 116 = 1 := by kernel_rfl
theorem bT116 : byT Tryz.prog 116 = 8 := by kernel_rfl
theorem zT116 : zT Tryz.prog 116 = some [.nilp] := by kernel_rfl
theorem eql1T116 {a b c : Nat}  : abin Tryz.prog .eql 116 (.c (.p a b c)) (.c .nilp) = some (.c (.b false)) := by kernel_rfl
theorem eql2T116 : abin Tryz.prog .eql 116 (.c .nilp) (.c .nilp) = some (.c (.b true)) := by kernel_rfl
theorem neq1T116 {a b c : Nat}  : abin Tryz.prog .neq 116 (.c (.p a b c)) (.c .nilp) = some (.c (.b true)) := by kernel_rfl
theorem neq2T116 : abin Tryz.prog .neq 116 (.c .nilp) (.c .nilp) = some (.c (.b false)) := by kernel_rfl
theorem dT117 : dT Tryz.prog 117 = .other := by kernel_rfl
theorem sT117 : szT Tryz.prog 117 = 1 := by kernel_rfl
theorem bT117 : byT Tryz.prog 117 = 8 := by kernel_rfl
theorem zT117 : zT Tryz.prog 117 = some [.nilf] := by kernel_rfl
theorem eql1T117 {f : Nat} {c : List (Nat × Nat × Nat)}  : abin Tryz.prog .eql 117 (.c (.f f c)) (.c .nilf) = some (.c (.b false)) := by kernel_rfl
theorem eql2T117 : abin Tryz.prog .eql 117 (.c .nilf) (.c .nilf) = some (.c (.b true)) := by kernel_rfl
theorem neq1T117 {f : Nat} {c : List (Nat × Nat × Nat)}  : abin Tryz.prog .neq 117 (.c (.f f c)) (.c .nilf) = some (.c (.b true)) := by kernel_rfl
theorem neq2T117 : abin Tryz.prog .neq 117 (.c .nilf) (.c .nilf) = some (.c (.b false)) := by kernel_rfl
theorem dT119 : dT Tryz.prog 119 = .other := by kernel_rfl
theorem sT119 : szT Tryz.prog 119 = 1 := by kernel_rfl
theorem bT119 : byT Tryz.prog 119 = 8 := by kernel_rfl
theorem zT119 : zT Tryz.prog 119 = some [.nilf] := by kernel_rfl
theorem eql1T119 {f : Nat} {c : List (Nat × Nat × Nat)}  : abin Tryz.prog .eql 119 (.c (.f f c)) (.c .nilf) = some (.c (.b false)) := by kernel_rfl
theorem eql2T119 : abin Tryz.prog .eql 119 (.c .nilf) (.c .nilf) = some (.c (.b true)) := by kernel_rfl
theorem neq1T119 {f : Nat} {c : List (Nat × Nat × Nat)}  : abin Tryz.prog .neq 119 (.c (.f f c)) (.c .nilf) = some (.c (.b true)) := by kernel_rfl
theorem neq2T119 : abin Tryz.prog .neq 119 (.c .nilf) (.c .nilf) = some (.c (.b false)) := by kernel_rfl
theorem dT120 : dT Tryz.prog 120 = .arr 64 5 := by kernel_rfl
theorem sT120 : szT Tryz.prog 120 = 64 := by kernel_rfl
theorem bT120 : byT Tryz.prog 120 = 64 := by kernel_rfl
theorem zT120 : zT Tryz.prog 120 = some (zRow 64 (.k .u8 (0))) := by kernel_rfl
theorem dT121 : dT Tryz.prog 121 = .arr 64 5 := by kernel_rfl
theorem sT121 : szT Tryz.prog 121 = 64 := by kernel_rfl
theorem bT121 : byT Tryz.prog 121 = 64 := by kernel_rfl
theorem zT121 : zT Tryz.prog 121 = some (zRow 64 (.k .u8 (0))) := by kernel_rfl
theorem dT122 : dT Tryz.prog 122 = .other := by kernel_rfl
theorem sT122 : szT Tryz.prog 122 = 1 := by kernel_rfl
theorem bT122 : byT Tryz.prog 122 = 8 := by kernel_rfl
theorem zT122 : zT Tryz.prog 122 = some [.nilf] := by kernel_rfl
theorem eql1T122 {f : Nat} {c : List (Nat × Nat × Nat)}  : abin Tryz.prog .eql 122 (.c (.f f c)) (.c .nilf) = some (.c (.b false)) := by kernel_rfl
theorem eql2T122 : abin Tryz.prog .eql 122 (.c .nilf) (.c .nilf) = some (.c (.b true)) := by kernel_rfl
theorem neq1T122 {f : Nat} {c : List (Nat × Nat × Nat)}  : abin Tryz.prog .neq 122 (.c (.f f c)) (.c .nilf) = some (.c (.b true)) := by kernel_rfl
theorem neq2T122 : abin Tryz.prog .neq 122 (.c .nilf) (.c .nilf) = some (.c (.b false)) := by kernel_rfl
theorem dT123 : dT Tryz.prog 123 = .other := by kernel_rfl
theorem sT123 : szT Tryz.prog 123 = 1 := by kernel_rfl
theorem bT123 : byT Tryz.prog 123 = 8 := by kernel_rfl
theorem zT123 : zT Tryz.prog 123 = some [.nilf] := by kernel_rfl
theorem eql1T123 {f : Nat} {c : List (Nat × Nat × Nat)}  : abin Tryz.prog .eql 123 (.c (.f f c)) (.c .nilf) = some (.c (.b false)) := by kernel_rfl
theorem eql2T123 : abin Tryz.prog .eql 123 (.c .nilf) (.c .nilf) = some (.c (.b true)) := by kernel_rfl
theorem neq1T123 {f : Nat} {c : List (Nat × Nat × Nat)}  : abin Tryz.prog .neq 123 (.c (.f f c)) (.c .nilf) = some (.c (.b true)) := by kernel_rfl
theorem neq2T123 : abin Tryz.prog .neq 123 (.c .nilf) (.c .nilf) = some (.c (.b false)) := by kernel_rfl
theorem dT124 : dT Tryz.prog 124 = .int .u64 := by kernel_rfl
theorem sT124 : szT Tryz.prog 124 = 1 := by kernel_rfl
theorem bT124 : byT Tryz.prog 124 = 8 := by kernel_rfl
theorem zT124 : zT Tryz.prog 124 = some [.u 0#64] := by kernel_rfl
theorem dT125 : dT Tryz.prog 125 = .arr 2 23 := by kernel_rfl
theorem sT125 : szT Tryz.prog 125 = 2 := by kernel_rfl
theorem bT125 : byT Tryz.prog 125 = 48 := by kernel_rfl
theorem zT125 : zT Tryz.prog 125 = some [.nils, .nils] := by kernel_rfl
theorem dT126 : dT Tryz.prog 126 = .other := by kernel_rfl
theorem sT126 : szT Tryz.prog 126 = 1 := by kernel_rfl
theorem bT126 : byT Tryz.prog 126 = 8 := by kernel_rfl
theorem zT126 : zT Tryz.prog 126 = some [.nilf] := by kernel_rfl
theorem eql1T126 {f : Nat} {c : List (Nat × Nat × Nat)}  : abin Tryz.prog .eql 126 (.c (.f f c)) (.c .nilf) = some (.c (.b false)) := by kernel_rfl
theorem eql2T126 : abin Tryz.prog .eql 126 (.c .nilf) (.c .nilf) = some (.c (.b true)) := by kernel_rfl
theorem neq1T126 {f : Nat} {c : List (Nat × Nat × Nat)}  : abin Tryz.prog .neq 126 (.c (.f f c)) (.c .nilf) = some (.c (.b true)) := by kernel_rfl
theorem neq2T126 : abin Tryz.prog .neq 126 (.c .nilf) (.c .nilf) = some (.c (.b false)) := by kernel_rfl
theorem dT127 : dT Tryz.prog 127 = .other := by kernel_rfl
theorem sT127 : szT Tryz.prog 127 = 1 := by kernel_rfl
theorem bT127 : byT Tryz.prog 127 = 8 := by kernel_rfl
theorem zT127 : zT Tryz.prog 127 = some [.nilf] := by kernel_rfl
theorem eql1T127 {f : Nat} {c : List (Nat × Nat × Nat)}  : abin Tryz.prog .eql 127 (.c (.f f c)) (.c .nilf) = some (.c (.b false)) := by kernel_rfl
theorem eql2T127 : abin Tryz.prog .eql 127 (.c .nilf) (.c .nilf) = some (.c (.b true)) := by kernel_rfl
theorem neq1T127 {f : Nat} {c : List (Nat × Nat × Nat)}  : abin Tryz.prog .neq 127 (.c (.f f c)) (.c .nilf) = some (.c (.b true)) := by kernel_rfl
theorem neq2T127 : abin Tryz.prog .neq 127 (.c .nilf) (.c .nilf) = some (.c (.b false)) := by kernel_rfl
theorem dT128 : dT Tryz.prog 128 = .ptr 192 := by kernel_rfl
theorem sT128 : szT Tryz.prog 128 = 1 := by kernel_rfl
theorem bT128 : byT Tryz.prog 128 = 8 := by kernel_rfl
theorem zT128 : zT Tryz.prog 128 = some [.nilp] := by kernel_rfl
theorem eql1T128 {a b c : Nat}  : abin Tryz.prog .eql 128 (.c (.p a b c)) (.c .nilp) = some (.c (.b false)) := by kernel_rfl
theorem eql2T128 : abin Tryz.prog .eql 128 (.c .nilp) (.c .nilp) = some (.c (.b true)) := by kernel_rfl
theorem neq1T128 {a b c : Nat}  : abin Tryz.prog .neq 128 (.c (.p a b c)) (.c .nilp) = some (.c (.b true)) := by kernel_rfl
theorem neq2T128 : abin Tryz.prog .neq 128 (.c .nilp) (.c .nilp) = some (.c (.b false)) := by kernel_rfl
theorem dT129 : dT Tryz.prog 129 = .arr 8 22 := by kernel_rfl
theorem sT129 : szT Tryz.prog 129 = 8 := by kernel_rfl
theorem bT129 : byT Tryz.prog 129 = 64 := by kernel_rfl
theorem zT129 : zT Tryz.prog 129 = some [.u 0#64, .u 0#64, .u 0#64, .u 0#64, .u 0#64, .u 0#64, .u 0#64, .u 0#64] := by kernel_rfl
theorem gT129 : tagsT Tryz.prog 12 129 = some [.n, .n, .n, .n, .n, .n, .n, .n] := by kernel_rfl
theorem eqT129 {a b : List Sc} : abin Tryz.prog .eql 129 (.g a) (.g b) = (csEq [.n, .n, .n, .n, .n, .n, .n, .n] a b).bind (eqU .eql) := ab_g_eql _ (by simp only [dT129, D.agg]) gT129
theorem neT129 {a b : List Sc} : abin Tryz.prog .neq 129 (.g a) (.g b) = (csEq [.n, .n, .n, .n, .n, .n, .n, .n] a b).bind (eqU .neq) := ab_g_neq _ (by simp only [dT129, D.agg]) gT129
theorem dT130 : dT Tryz.prog 130 = .arr 8 4 := by kernel_rfl
theorem sT130 : szT Tryz.prog 130 = 8 := by kernel_rfl
theorem bT130 : byT Tryz.prog 130 = 8 := by kernel_rfl
theorem zT130 : zT Tryz.prog 130 = some [.b false, .b false, .b false, .b false, .b false, .b false, .b false, .b false] := by kernel_rfl
theorem gT130 : tagsT Tryz.prog 12 130 = some [.q, .q, .q, .q, .q, .q, .q, .q] := by kernel_rfl
theorem eqT130 {a b : List Sc} : abin Tryz.prog .eql 130 (.g a) (.g b) = (csEq [.q, .q, .q, .q, .q, .q, .q, .q] a b).bind (eqU .eql) := ab_g_eql _ (by simp only [dT130, D.agg]) gT130
theorem neT130 {a b : List Sc} : abin Tryz.prog .neq 130 (.g a) (.g b) = (csEq [.q, .q, .q, .q, .q, .q, .q, .q] a b).bind (eqU .neq) := ab_g_neq _ (by simp only [dT130, D.agg]) gT130
theorem dT131 : dT Tryz.prog 131 = .st [(0, 3), (1, 22), (2, 129), (10, 130)] := by kernel_rfl
theorem sT131 : szT Tryz.prog 131 = 18 := by kernel_rfl
theorem bT131 : byT Tryz.prog 131 = 88 := by kernel_rfl
theorem zT131 : zT Tryz.prog 131 = some [.i 0, .u 0#64, .u 0#64, .u 0#64, .u 0#64, .u 0#64, .u 0#64, .u 0#64, .u 0#64, .u 0#64, .b false, .b false, .b false, .b false, .b false, .b false, .b false, .b false] := by kernel_rfl
theorem dT132 : dT Tryz.prog 132 = .st [(0, 3), (1, 22), (2, 129), (10, 130)] := by kernel_rfl
theorem sT132 : szT Tryz.prog 132 = 18 := by kernel_rfl
theorem bT132 : byT Tryz.prog 132 = 88 := by kernel_rfl
theorem zT132 : zT Tryz.prog 132 = some [.i 0, .u 0#64, .u 0#64, .u 0#64, .u 0#64, .u 0#64, .u 0#64, .u 0#64, .u 0#64, .u 0#64, .b false, .b false, .b false, .b false, .b false, .b false, .b false, .b false] := by kernel_rfl
theorem gT132 : tagsT Tryz.prog 12 132 = some [.n, .n, .n, .n, .n, .n, .n, .n, .n, .n, .q, .q, .q, .q, .q, .q, .q, .q] := by kernel_rfl
theorem eqT132 {a b : List Sc} : abin Tryz.prog .eql 132 (.g a) (.g b) = (csEq [.n, .n, .n, .n, .n, .n, .n, .n, .n, .n, .q, .q, .q, .q, .q, .q, .q, .q] a b).bind (eqU .eql) := ab_g_eql _ (by simp only [dT132, D.agg]) gT132
theorem neT132 {a b : List Sc} : abin Tryz.prog .neq 132 (.g a) (.g b) = (csEq [.n, .n, .n, .n, .n, .n, .n, .n, .n, .n, .q, .q, .q, .q, .q, .q, .q, .q] a b).bind (eqU .neq) := ab_g_neq _ (by simp only [dT132, D.agg]) gT132
theorem dT133 : dT Tryz.prog 133 = .arr 32 5 := by kernel_rfl
theorem sT133 : szT Tryz.prog 133 = 32 := by kernel_rfl
theorem bT133 : byT Tryz.prog 133 = 32 := by kernel_rfl
theorem zT133 : zT Tryz.prog 133 = some [.k .u8 (0), .k .u8 (0), .k .u8 (0), .k .u8 (0), .k .u8 (0), .k .u8 (0), .k .u8 (0), .k .u8 (0), .k .u8 (0), .k .u8 (0), .k .u8 (0), .k .u8 (0), .k .u8 (0), .k .u8 (0), .k .u8 (0), .k .u8 (0), .k .u8 (0), .k .u8 (0), .k .u8 (0), .k .u8 (0), .k .u8 (0), .k .u8 (0), .k .u8 (0), .k .u8 (0), .k .u8 (0), .k .u8 (0), .k .u8 (0), .k .u8 (0), .k .u8 (0), .k .u8 (0), .k .u8 (0), .k .u8 (0)] := by kernel_rfl
theorem gT133 : tagsT Tryz.prog 12 133 = some [.n, .n, .n, .n, .n, .n, .n, .n, .n, .n, .n, .n, .n, .n, .n, .n, .n, .n, .n, .n, .n, .n, .n, .n, .n, .n, .n, .n, .n, .n, .n, .n] := by kernel_rfl
theorem eqT133 {a b : List Sc} : abin Tryz.prog .eql 133 (.g a) (.g b) = (csEq [.n, .n, .n, .n, .n, .n, .n, .n, .n, .n, .n, .n, .n, .n, .n, .n, .n, .n, .n, .n, .n, .n, .n, .n, .n, .n, .n, .n, .n, .n, .n, .n] a b).bind (eqU .eql) := ab_g_eql _ (by simp only [dT133, D.agg]) gT133
theorem neT133 {a b : List Sc} : abin Tryz.prog .neq 133 (.g a) (.g b) = (csEq [.n, .n, .n, .n, .n, .n, .n, .n, .n, .n, .n, .n, .n, .n, .n, .n, .n, .n, .n, .n, .n, .n, .n, .n, .n, .n, .n, .n, .n, .n, .n, .n] a b).bind (eqU .neq) := ab_g_neq _ (by simp only [dT133, D.agg]) gT133
theorem dT134 : dT Tryz.prog 134 = .int .u32 := by kernel_rfl
theorem sT134 : szT Tryz.prog 134 = 1 := by kernel_rfl
theorem bT134 : byT Tryz.prog 134 = 4 := by kernel_rfl
theorem zT134 : zT Tryz.prog 134 = some [.k .u32 (0)] := by kernel_rfl
theorem dT135 : dT Tryz.prog 135 = .arr 16 134 := by kernel_rfl
theorem sT135 : szT Tryz.prog 135 = 16 := by kernel_rfl
theorem bT135 : byT Tryz.prog 135 = 64 := by kernel_rfl
theorem zT135 : zT Tryz.prog 135 = some [.k .u32 (0), .k .u32 (0), .k .u32 (0), .k .u32 (0), .k .u32 (0), .k .u32 (0), .k .u32 (0), .k .u32 (0), .k .u32 (0), .k .u32 (0), .k .u32 (0), .k .u32 (0), .k .u32 (0), .k .u32 (0), .k .u32 (0), .k .u32 (0)] := by kernel_rfl
theorem gT135 : tagsT Tryz.prog 12 135 = some [.n, .n, .n, .n, .n, .n, .n, .n, .n, .n, .n, .n, .n, .n, .n, .n] := by kernel_rfl
theorem eqT135 {a b : List Sc} : abin Tryz.prog .eql 135 (.g a) (.g b) = (csEq [.n, .n, .n, .n, .n, .n, .n, .n, .n, .n, .n, .n, .n, .n, .n, .n] a b).bind (eqU .eql) := ab_g_eql _ (by simp only [dT135, D.agg]) gT135
theorem neT135 {a b : List Sc} : abin Tryz.prog .neq 135 (.g a) (.g b) = (csEq [.n, .n, .n, .n, .n, .n, .n, .n, .n, .n, .n, .n, .n, .n, .n, .n] a b).bind (eqU .neq) := ab_g_neq _ (by simp only [dT135, D.agg]) gT135
theorem dT136 : dT Tryz.prog 136 = .arr 16 5 := by kernel_rfl
theorem sT136 : szT Tryz.prog 136 = 16 := by kernel_rfl
theorem bT136 : byT Tryz.prog 136 = 16 := by kernel_rfl
theorem zT136 : zT Tryz.prog 136 = some [.k .u8 (0), .k .u8 (0), .k .u8 (0), .k .u8 (0), .k .u8 (0), .k .u8 (0), .k .u8 (0), .k .u8 (0), .k .u8 (0), .k .u8 (0), .k .u8 (0), .k .u8 (0), .k .u8 (0), .k .u8 (0), .k .u8 (0), .k .u8 (0)] := by kernel_rfl
theorem gT136 : tagsT Tryz.prog 12 136 = some [.n, .n, .n, .n, .n, .n, .n, .n, .n, .n, .n, .n, .n, .n, .n, .n] := by kernel_rfl
theorem eqT136 {a b : List Sc} : abin Tryz.prog .eql 136 (.g a) (.g b) = (csEq [.n, .n, .n, .n, .n, .n, .n, .n, .n, .n, .n, .n, .n, .n, .n, .n] a b).bind (eqU .eql) := ab_g_eql _ (by simp only [dT136, D.agg]) gT136
theorem neT136 {a b : List Sc} : abin Tryz.prog .neq 136 (.g a) (.g b) = (csEq [.n, .n, .n, .n, .n, .n, .n, .n, .n, .n, .n, .n, .n, .n, .n, .n] a b).bind (eqU .neq) := ab_g_neq _ (by simp only [dT136, D.agg]) gT136
theorem dT137 : dT Tryz.prog 137 = .st [(0, 3), (1, 133), (33, 134), (34, 134), (35, 134), (36, 135), (52, 136)] := by kernel_rfl
theorem sT137 : szT Tryz.prog 137 = 68 := by kernel_rfl
theorem bT137 : byT Tryz.prog 137 = 136 := by kernel_rfl
theorem zT137 : zT Tryz.prog 137 = some [.i 0, .k .u8 (0), .k .u8 (0), .k .u8 (0), .k .u8 (0), .k .u8 (0), .k .u8 (0), .k .u8 (0), .k .u8 (0), .k .u8 (0), .k .u8 (0), .k .u8 (0), .k .u8 (0), .k .u8 (0), .k .u8 (0), .k .u8 (0), .k .u8 (0), .k .u8 (0), .k .u8 (0), .k .u8 (0), .k .u8 (0), .k .u8 (0), .k .u8 (0), .k .u8 (0), .k .u8 (0), .k .u8 (0), .k .u8 (0), .k .u8 (0), .k .u8 (0), .k .u8 (0), .k .u8 (0), .k .u8 (0), .k .u8 (0), .k .u32 (0), .k .u32 (0), .k .u32 (0), .k .u32 (0), .k .u32 (0), .k .u32 (0), .k .u32 (0), .k .u32 (0), .k .u32 (0), .k .u32 (0), .k .u32 (0), .k .u32 (0), .k .u32 (0), .k .u32 (0), .k .u32 (0), .k .u32 (0), .k .u32 (0), .k .u32 (0), .k .u32 (0), .k .u8 (0), .k .u8 (0), .k .u8 (0), .k .u8 (0), .k .u8 (0), .k .u8 (0), .k .u8 (0), .k .u8 (0), .k .u8 (0), .k .u8 (0), .k .u8 (0), .k .u8 (0), .k .u8 (0), .k .u8 (0), .k .u8 (0), .k .u8 (0)] := by kernel_rfl
theorem dT138 : dT Tryz.prog 138 = .st [(0, 3), (1, 133), (33, 134), (34, 134), (35, 134), (36, 135), (52, 136)] := by kernel_rfl
theorem sT138 : szT Tryz.prog 138 = 68 := by kernel_rfl
theorem bT138 : byT Tryz.prog 138 = 136 := by kernel_rfl
theorem zT138 : zT Tryz.prog 138 = some [.i 0, .k .u8 (0), .k .u8 (0), .k .u8 (0), .k .u8 (0), .k .u8 (0), .k .u8 (0), .k .u8 (0), .k .u8 (0), .k .u8 (0), .k .u8 (0), .k .u8 (0), .k .u8 (0), .k .u8 (0), .k .u8 (0), .k .u8 (0), .k .u8 (0), .k .u8 (0), .k .u8 (0), .k .u8 (0), .k .u8 (0), .k .u8 (0), .k .u8 (0), .k .u8 (0), .k .u8 (0), .k .u8 (0), .k .u8 (0), .k .u8 (0), .k .u8 (0), .k .u8 (0), .k .u8 (0), .k .u8 (0), .k .u8 (0), .k .u32 (0), .k .u32 (0), .k .u32 (0), .k .u32 (0), .k .u32 (0), .k .u32 (0), .k .u32 (0), .k .u32 (0), .k .u32 (0), .k .u32 (0), .k .u32 (0), .k .u32 (0), .k .u32 (0), .k .u32 (0), .k .u32 (0), .k .u32 (0), .k .u32 (0), .k .u32 (0), .k .u32 (0), .k .u8 (0), .k .u8 (0), .k .u8 (0), .k .u8 (0), .k .u8 (0), .k .u8 (0), .k .u8 (0), .k .u8 (0), .k .u8 (0), .k .u8 (0), .k .u8 (0), .k .u8 (0), .k .u8 (0), .k .u8 (0), .k .u8 (0), .k .u8 (0)] := by kernel_rfl
theorem dT139 : dT Tryz.prog 139 = .st [(0, 128), (1, 3), (2, 132), (20, 138)] := by kernel_rfl
theorem sT139 : szT Tryz.prog 139 = 88 := by kernel_rfl
theorem bT139 : byT Tryz.prog 139 = 240 := by kernel_rfl
theorem zT139 : zT Tryz.prog 139 = some [.nilp, .i 0, .i 0, .u 0#64, .u 0#64, .u 0#64, .u 0#64, .u 0#64, .u 0#64, .u 0#64, .u 0#64, .u 0#64, .b false, .b false, .b false, .b false, .b false, .b false, .b false, .b false, .i 0, .k .u8 (0), .k .u8 (0), .k .u8 (0), .k .u8 (0), .k .u8 (0), .k .u8 (0), .k .u8 (0), .k .u8 (0), .k .u8 (0), .k .u8 (0), .k .u8 (0), .k .u8 (0), .k .u8 (0), .k .u8 (0), .k .u8 (0), .k .u8 (0), .k .u8 (0), .k .u8 (0), .k .u8 (0), .k .u8 (0), .k .u8 (0), .k .u8 (0), .k .u8 (0), .k .u8 (0), .k .u8 (0), .k .u8 (0), .k .u8 (0), .k .u8 (0), .k .u8 (0), .k .u8 (0), .k .u8 (0), .k .u8 (0), .k .u32 (0), .k .u32 (0), .k .u32 (0), .k .u32 (0), .k .u32 (0), .k .u32 (0), .k .u32 (0), .k .u32 (0), .k .u32 (0), .k .u32 (0), .k .u32 (0), .k .u32 (0), .k .u32 (0), .k .u32 (0), .k .u32 (0), .k .u32 (0), .k .u32 (0), .k .u32 (0), .k .u32 (0), .k .u8 (0), .k .u8 (0), .k .u8 (0), .k .u8 (0), .k .u8 (0), .k .u8 (0), .k .u8 (0), .k .u8 (0), .k .u8 (0), .k .u8 (0), .k .u8 (0), .k .u8 (0), .k .u8 (0), .k .u8 (0), .k .u8 (0), .k .u8 (0)] := by kernel_rfl
theorem dT140 : dT Tryz.prog 140 = .st [(0, 128), (1, 3), (2, 132), (20, 138)] := by kernel_rfl
theorem sT140 : szT Tryz.prog 140 = 88 := by kernel_rfl
theorem bT140 : byT Tryz.prog 140 = 240 := by kernel_rfl
theorem zT140 : zT Tryz.prog 140 = some [.nilp, .i 0, .i 0, .u 0#64, .u 0#64, .u 0#64, .u 0#64, .u 0#64, .u 0#64, .u 0#64, .u 0#64, .u 0#64, .b false, .b false, .b false, .b false, .b false, .b false, .b false, .b false, .i 0, .k .u8 (0), .k .u8 (0), .k .u8 (0), .k .u8 (0), .k .u8 (0), .k .u8 (0), .k .u8 (0), .k .u8 (0), .k .u8 (0), .k .u8 (0), .k .u8 (0), .k .u8 (0), .k .u8 (0), .k .u8 (0), .k .u8 (0), .k .u8 (0), .k .u8 (0), .k .u8 (0), .k .u8 (0), .k .u8 (0), .k .u8 (0), .k .u8 (0), .k .u8 (0), .k .u8 (0), .k .u8 (0), .k .u8 (0), .k .u8 (0), .k .u8 (0), .k .u8 (0), .k .u8 (0), .k .u8 (0), .k .u8 (0), .k .u32 (0), .k .u32 (0), .k .u32 (0), .k .u32 (0), .k .u32 (0), .k .u32 (0), .k .u32 (0), .k .u32 (0), .k .u32 (0), .k .u32 (0), .k .u32 (0), .k .u32 (0), .k .u32 (0), .k .u32 (0), .k .u32 (0), .k .u32 (0), .k .u32 (0), .k .u32 (0), .k .u32 (0), .k .u8 (0), .k .u8 (0), .k .u8 (0), .k .u8 (0), .k .u8 (0), .k .u8 (0), .k .u8 (0), .k .u8 (0), .k .u8 (0), .k .u8 (0), .k .u8 (0), .k .u8 (0), .k .u8 (0), .k .u8 (0), .k .u8 (0), .k .u8 (0)] := by kernel_rfl
theorem dT141 : dT Tryz.prog 141 = .other := by kernel_rfl
theorem sT141 : szT Tryz.prog 141 = 1 := by kernel_rfl
theorem bT141 : byT Tryz.prog 141 = 8 := by kernel_rfl
theorem zT141 : zT Tryz.prog 141 = some [.nilf] := by kernel_rfl
theorem eql1T141 {f : Nat} {c : List (Nat × Nat × Nat)}  : abin Tryz.prog .eql 141 (.c (.f f c)) (.c .nilf) = some (.c (.b false)) := by kernel_rfl
theorem eql2T141 : abin Tryz.prog .eql 141 (.c .nilf) (.c .nilf) = some (.c (.b true)) := by kernel_rfl
theorem neq1T141 {f : Nat} {c : List (Nat × Nat × Nat)}  : abin Tryz.prog .neq 141 (.c (.f f c)) (.c .nilf) = some (.c (.b true)) := by kernel_rfl
theorem neq2T141 : abin Tryz.prog .neq 141 (.c .nilf) (.c .nilf) = some (.c (.b false)) := by kernel_rfl
theorem dT142 : dT Tryz.prog 142 = .st [(0, 3), (1, 22), (2, 3)] := by kernel_rfl
theorem sT142 : szT Tryz.prog 142 = 3 := by kernel_rfl
theorem bT142 : byT Tryz.prog 142 = 24 := by kernel_rfl
theorem zT142 : zT Tryz.prog 142 = some [.i 0, .u 0#64, .i 0] := by kernel_rfl
theorem dT143 : dT Tryz.prog 143 = .st [(0, 3), (1, 22), (2, 3)] := by kernel_rfl
theorem sT143 : szT Tryz.prog 143 = 3 := by kernel_rfl
theorem bT143 : byT Tryz.prog 143 = 24 := by kernel_rfl
theorem zT143 : zT Tryz.prog 143 = some [.i 0, .u 0#64, .i 0] := by kernel_rfl
theorem gT143 : tagsT Tryz.prog 12 143 = some [.n, .n, .n] := by kernel_rfl
theorem eqT143 {a b : List Sc} : abin Tryz.prog .eql 143 (.g a) (.g b) = (csEq [.n, .n, .n] a b).bind (eqU .eql) := ab_g_eql _ (by simp only [dT143, D.agg]) gT143
theorem neT143 {a b : List Sc} : abin Tryz.prog .neq 143 (.g a) (.g b) = (csEq [.n, .n, .n] a b).bind (eqU .neq) := ab_g_neq _ (by simp only [dT143, D.agg]) gT143
theorem dT144 : dT Tryz.prog 144 = .other := by kernel_rfl
theorem sT144 : szT Tryz.prog 144 = 1 := by kernel_rfl
theorem bT144 : byT Tryz.prog 144 = 8 := by kernel_rfl
theorem zT144 : zT Tryz.prog 144 = some [.nilf] := by kernel_rfl
theorem eql1T144 {f : Nat} {c : List (Nat × Nat × Nat)}  : abin Tryz.prog .eql 144 (.c (.f f c)) (.c .nilf) = some (.c (.b false)) := by kernel_rfl
theorem eql2T144 : abin Tryz.prog .eql 144 (.c .nilf) (.c .nilf) = some (.c (.b true)) := by kernel_rfl
theorem neq1T144 {f : Nat} {c : List (Nat × Nat × Nat)}  : abin Tryz.prog .neq 144 (.c (.f f c)) (.c .nilf) = some (.c (.b true)) := by kernel_rfl
theorem neq2T144 : abin Tryz.prog .neq 144 (.c .nilf) (.c .nilf) = some (.c (.b false)) := by kernel_rfl
theorem dT145 : dT Tryz.prog 145 = .other := by kernel_rfl
theorem sT145 : szT Tryz.prog 145 = 1 := by kernel_rfl
theorem bT145 : byT Tryz.prog 145 = 8 := by kernel_rfl
theorem zT145 : zT Tryz.prog 145 = some [.nilf] := by kernel_rfl
theorem eql1T145 {f : Nat} {c : List (Nat × Nat × Nat)}  : abin Tryz.prog .eql 145 (.c (.f f c)) (.c .nilf) = some (.c (.b false)) := by kernel_rfl
theorem eql2T145 : abin Tryz.prog .eql 145 (.c .nilf) (.c .nilf) = some (.c (.b true)) := by kernel_rfl
theorem neq1T145 {f : Nat} {c : List (Nat × Nat × Nat)}  : abin Tryz.prog .neq 145 (.c (.f f c)) (.c .nilf) = some (.c (.b true)) := by kernel_rfl
theorem neq2T145 : abin Tryz.prog .neq 145 (.c .nilf) (.c .nilf) = some (.c (.b false)) := by kernel_rfl
theorem dT146 : dT Tryz.prog 146 = .other := by kernel_rfl
theorem sT146 : szT Tryz.prog 146 = 1 := by kernel_rfl
theorem bT146 : byT Tryz.prog 146 = 8 := by kernel_rfl
theorem zT146 : zT Tryz.prog 146 = some [.nilf] := by kernel_rfl
theorem eql1T146 {f : Nat} {c : List (Nat × Nat × Nat)}  : abin Tryz.prog .eql 146 (.c (.f f c)) (.c .nilf) = some (.c (.b false)) := by kernel_rfl
theorem eql2T146 : abin Tryz.prog .eql 146 (.c .nilf) (.c .nilf) = some (.c (.b true)) := by kernel_rfl
theorem neq1T146 {f : Nat} {c : List (Nat × Nat × Nat)}  : abin Tryz.prog .neq 146 (.c (.f f c)) (.c .nilf) = some (.c (.b true)) := by kernel_rfl
theorem neq2T146 : abin Tryz.prog .neq 146 (.c .nilf) (.c .nilf) = some (.c (.b false)) := by kernel_rfl
theorem dT147 : dT Tryz.prog 147 = .other := by kernel_rfl
theorem sT147 : szT Tryz.prog 147 = 1 := by kernel_rfl
theorem bT147 : byT Tryz.prog 147 = 8 := by kernel_rfl
theorem zT147 : zT Tryz.prog 147 = some [.nilf] := by kernel_rfl
theorem eql1T147 {f : Nat} {c : List (Nat × Nat × Nat)}  : abin Tryz.prog .eql 147 (.c (.f f c)) (.c .nilf) = some (.c (.b false)) := by kernel_rfl
theorem eql2T147 : abin Tryz.prog .eql 147 (.c .nilf) (.c .nilf) = some (.c (.b true)) := by kernel_rfl
theorem neq1T147 {f : Nat} {c : List (Nat × Nat × Nat)}  : abin Tryz.prog .neq 147 (.c (.f f c)) (.c .nilf) = some (.c (.b true)) := by kernel_rfl
theorem neq2T147 : abin Tryz.prog .neq 147 (.c .nilf) (.c .nilf) = some (.c (.b false)) := by kernel_rfl
theorem dT148 : dT Tryz.prog 148 = .other := by kernel_rfl
theorem sT148 : szT Tryz.prog 148 = 1 := by kernel_rfl
theorem bT148 : byT Tryz.prog 148 = 8 := by kernel_rfl
theorem zT148 : zT Tryz.prog 148 = some [.nilf] := by kernel_rfl
theorem eql1T148 {f : Nat} {c : List (Nat × Nat × Nat)}  : abin Tryz.prog .eql 148 (.c (.f f c)) (.c .nilf) = some (.c (.b false)) := by kernel_rfl
theorem eql2T148 : abin Tryz.prog .eql 148 (.c .nilf) (.c .nilf) = some (.c (.b true)) := by kernel_rfl
theorem neq1T148 {f : Nat} {c : List (Nat × Nat × Nat)}  : abin Tryz.prog .neq 148 (.c (.f f c)) (.c .nilf) = some (.c (.b true)) := by kernel_rfl
theorem neq2T148 : abin Tryz.prog .neq 148 (.c .nilf) (.c .nilf) = some (.c (.b false)) := by kernel_rfl
theorem dT149 : dT Tryz.prog 149 = .other := by kernel_rfl
theorem sT149 : szT Tryz.prog 149 = 1 := by kernel_rfl
theorem bT149 : byT Tryz.prog 149 = 8 := by kernel_rfl
theorem zT149 : zT Tryz.prog 149 = some [.nilf] := by kernel_rfl
theorem eql1T149 {f : Nat} {c : List (Nat × Nat × Nat)}  : abin Tryz.prog .eql 149 (.c (.f f c)) (.c .nilf) = some (.c (.b false)) := by kernel_rfl
theorem eql2T149 : abin Tryz.prog .eql 149 (.c .nilf) (.c .nilf) = some (.c (.b true)) := by kernel_rfl
theorem neq1T149 {f : Nat} {c : List (Nat × Nat × Nat)}  : abin Tryz.prog .neq 149 (.c (.f f c)) (.c .nilf) = some (.c (.b true)) := by kernel_rfl
theorem neq2T149 : abin Tryz.prog .neq 149 (.c .nilf) (.c .nilf) = some (.c (.b false)) := by kernel_rfl
theorem dT150 : dT Tryz.prog 150 = .ptr 87 := by kernel_rfl
theorem sT150 : szT Tryz.prog 150 = 1 := by kernel_rfl
theorem bT150 : byT Tryz.prog 150 = 8 := by kernel_rfl
theorem zT150 : zT Tryz.prog 150 = some [.nilp] := by kernel_rfl
theorem eql1T150 {a b c : Nat}  : abin Tryz.prog .eql 150 (.c (.p a b c)) (.c .nilp) = some (.c (.b false)) := by kernel_rfl
theorem eql2T150 : abin Tryz.prog .eql 150 (.c .nilp) (.c .nilp) = some (.c (.b true)) := by kernel_rfl
theorem neq1T150 {a b c : Nat}  : abin Tryz.prog .neq 150 (.c (.p a b c)) (.c .nilp) = some (.c (.b true)) := by kernel_rfl
theorem neq2T150 : abin Tryz.prog .neq 150 (.c .nilp) (.c .nilp) = some (.c (.b false)) := by kernel_rfl
theorem dT151 : dT Tryz.prog 151 = .ptr 31 := by kernel_rfl
theorem sT151 : szT Tryz.prog 151 = 1 := by kernel_rfl
theorem bT151 : byT Tryz.prog 151 = 8 := by kernel_rfl
theorem zT151 : zT Tryz.prog 151 = some [.nilp] := by kernel_rfl
theorem eql1T151 {a b c : Nat}  : abin Tryz.prog .eql 151 (.c (.p a b c)) (.c .nilp) = some (.c (.b false)) := by kernel_rfl
theorem eql2T151 : abin Tryz.prog .eql 151 (.c .nilp) (.c .nilp) = some (.c (.b true)) := by kernel_rfl
theorem neq1T151 {a b c : Nat}  : abin Tryz.prog .neq 151 (.c (.p a b c)) (.c .nilp) = some (.c (.b true)) := by kernel_rfl
theorem neq2T151 : abin Tryz.prog .neq 151 (.c .nilp) (.c .nilp) = some (.c (.b false)) := by kernel_rfl
theorem dT152 : dT Tryz.prog 152 = .other := by kernel_rfl
theorem sT152 : szT Tryz.prog 152 = 1 := by kernel_rfl
theorem bT152 : byT Tryz.prog 152 = 8 := by kernel_rfl
theorem zT152 : zT Tryz.prog 152 = some [.nilf] := by kernel_rfl
theorem eql1T152 {f : Nat} {c : List (Nat × Nat × Nat)}  : abin Tryz.prog .eql 152 (.c (.f f c)) (.c .nilf) = some (.c (.b false)) := by kernel_rfl
theorem eql2T152 : abin Tryz.prog .eql 152 (.c .nilf) (.c .nilf) = some (.c (.b true)) := by kernel_rfl
theorem neq1T152 {f : Nat} {c : List (Nat × Nat × Nat)}  : abin Tryz.prog .neq 152 (.c (.f f c)) (.c .nilf) = some (.c (.b true)) := by kernel_rfl
theorem neq2T152 : abin Tryz.prog .neq 152 (.c .nilf) (.c .nilf) = some (.c (.b false)) := by kernel_rfl
theorem dT153 : dT Tryz.prog 153 = .other := by kernel_rfl
theorem sT153 : szT Tryz.prog 153 = 1 := by kernel_rfl
theorem bT153 : byT Tryz.prog 153 = 8 := by kernel_rfl
theorem zT153 : zT Tryz.prog 153 = some [.nilf] := by kernel_rfl
theorem eql1T153 {f : Nat} {c : List (Nat × Nat × Nat)}  : abin Tryz.prog .eql 153 (.c (.f f c)) (.c .nilf) = some (.c (.b false)) := by kernel_rfl
theorem eql2T153 : abin Tryz.prog .eql 153 (.c .nilf) (.c .nilf) = some (.c (.b true)) := by kernel_rfl
theorem neq1T153 {f : Nat} {c : List (Nat × Nat × Nat)}  : abin Tryz.prog .neq 153 (.c (.f f c)) (.c .nilf) = some (.c (.b true)) := by kernel_rfl
theorem neq2T153 : abin Tryz.prog .neq 153 (.c .nilf) (.c .nilf) = some (.c (.b false)) := by kernel_rfl
theorem dT154 : dT Tryz.prog 154 = .other := by kernel_rfl
theorem sT154 : szT Tryz.prog 154 = 1 := by kernel_rfl
theorem bT154 : byT Tryz.prog 154 = 8 := by kernel_rfl
theorem zT154 : zT Tryz.prog 154 = some [.nilf] := by kernel_rfl
theorem eql1T154 {f : Nat} {c : List (Nat × Nat × Nat)}  : abin Tryz.prog .eql 154 (.c (.f f c)) (.c .nilf) = some (.c (.b false)) := by kernel_rfl
theorem eql2T154 : abin Tryz.prog .eql 154 (.c .nilf) (.c .nilf) = some (.c (.b true)) := by kernel_rfl
theorem neq1T154 {f : Nat} {c : List (Nat × Nat × Nat)}  : abin Tryz.prog .neq 154 (.c (.f f c)) (.c .nilf) = some (.c (.b true)) := by kernel_rfl
theorem neq2T154 : abin Tryz.prog .neq 154 (.c .nilf) (.c .nilf) = some (.c (.b false)) := by kernel_rfl
theorem dT155 : dT Tryz.prog 155 = .other := by kernel_rfl
theorem sT155 : szT Tryz.prog 155 = 1 := by kernel_rfl
theorem bT155 : byT Tryz.prog 155 = 8 := by kernel_rfl
theorem zT155 : zT Tryz.prog 155 = some [.nilf] := by kernel_rfl
theorem eql1T155 {f : Nat} {c : List (Nat × Nat × Nat)}  : abin Tryz.prog .eql 155 (.c (.f f c)) (.c .nilf) = some (.c (.b false)) := by kernel_rfl
theorem eql2T155 : abin Tryz.prog .eql 155 (.c .nilf) (.c .nilf) = some (.c (.b true)) := by kernel_rfl
theorem neq1T155 {f : Nat} {c : List (Nat × Nat × Nat)}  : abin Tryz.prog .neq 155 (.c (.f f c)) (.c .nilf) = some (.c (.b true)) := by kernel_rfl
theorem neq2T155 : abin Tryz.prog .neq 155 (.c .nilf) (.c .nilf) = some (.c (.b false)) := by kernel_rfl
theorem dT156 : dT Tryz.prog 156 = .other := by kernel_rfl
theorem sT156 : szT Tryz.prog 156 = 1 := by kernel_rfl
theorem bT156 : byT Tryz.prog 156 = 8 := by kernel_rfl
theorem zT156 : zT Tryz.prog 156 = some [.nilf] := by kernel_rfl
theorem eql1T156 {f : Nat} {c : List (Nat × Nat × Nat)}  : abin Tryz.prog .eql 156 (.c (.f f c)) (.c .nilf) = some (.c (.b false)) := by kernel_rfl
theorem eql2T156 : abin Tryz.prog .eql 156 (.c .nilf) (.c .nilf) = some (.c (.b true)) := by kernel_rfl
theorem neq1T156 {f : Nat} {c : List (Nat × Nat × Nat)}  : abin Tryz.prog .neq 156 (.c (.f f c)) (.c .nilf) = some (.c (.b true)) := by kernel_rfl
theorem neq2T156 : abin Tryz.prog .neq 156 (.c .nilf) (.c .nilf) = some (.c (.b false)) := by kernel_rfl
theorem dT157 : dT Tryz.prog 157 = .other := by kernel_rfl
theorem sT157 : szT Tryz.prog 157 = 1 := by kernel_rfl
theorem bT157 : byT Tryz.prog 157 = 8 := by kernel_rfl
theorem zT157 : zT Tryz.prog 157 = some [.nilf] := by kernel_rfl
theorem eql1T157 {f : Nat} {c : List (Nat × Nat × Nat)}  : abin Tryz.prog .eql 157 (.c (.f f c)) (.c .nilf) = some (.c (.b false)) := by kernel_rfl
theorem eql2T157 : abin Tryz.prog .eql 157 (.c .nilf) (.c .nilf) = some (.c (.b true)) := by kernel_rfl
theorem neq1T157 {f : Nat} {c : List (Nat × Nat × Nat)}  : abin Tryz.prog .neq 157 (.c (.f f c)) (.c .nilf) = some (.c (.b true)) := by kernel_rfl
theorem neq2T157 : abin Tryz.prog .neq 157 (.c .nilf) (.c .nilf) = some (.c (.b false)) := by kernel_rfl
theorem dT158 : dT Tryz.prog 158 = .other := by kernel_rfl
theorem sT158 : szT Tryz.prog 158 = 1 := by kernel_rfl
theorem bT158 : byT Tryz.prog 158 = 8 := by kernel_rfl
theorem zT158 : zT Tryz.prog 158 = some [.nilf] := by kernel_rfl
theorem eql1T158 {f : Nat} {c : List (Nat × Nat × Nat)}  : abin Tryz.prog .eql 158 (.c (.f f c)) (.c .nilf) = some (.c (.b false)) := by kernel_rfl
theorem eql2T158 : abin Tryz.prog .eql 158 (.c .nilf) (.c .nilf) = some (.c (.b true)) := by kernel_rfl
theorem neq1T158 {f : Nat} {c : List (Nat × Nat × Nat)}  : abin Tryz.prog .neq 158 (.c (.f f c)) (.c .nilf) = some (.c (.b true)) := by kernel_rfl
theorem neq2T158 : abin Tryz.prog .neq 158 (.c .nilf) (.c .nilf) = some (.c (.b false)) := by kernel_rfl
theorem dT159 : dT Tryz.prog 159 = .other := by kernel_rfl
theorem sT159 : szT Tryz.prog 159 = 1 := by kernel_rfl
theorem bT159 : byT Tryz.prog 159 = 8 := by kernel_rfl
theorem zT159 : zT Tryz.prog 159 = some [.nilf] := by kernel_rfl
theorem eql1T159 {f : Nat} {c : List (Nat × Nat × Nat)}  : abin Tryz.prog .eql 159 (.c (.f f c)) (.c .nilf) = some (.c (.b false)) := by kernel_rfl
theorem eql2T159 : abin Tryz.prog .eql 159 (.c .nilf) (.c .nilf) = some (.c (.b true)) := by kernel_rfl
theorem neq1T159 {f : Nat} {c : List (Nat × Nat × Nat)}  : abin Tryz.prog .neq 159 (.c (.f f c)) (.c .nilf) = some (.c (.b true)) := by kernel_rfl
theorem neq2T159 : abin Tryz.prog .neq 159 (.c .nilf) (.c .nilf) = some (.c (.b false)) := by kernel_rfl
theorem dT160 : dT Tryz.prog 160 = .other := by kernel_rfl
theorem sT160 : szT Tryz.prog 160 = 1 := by kernel_rfl
theorem bT160 : byT Tryz.prog 160 = 8 := by kernel_rfl
theorem zT160 : zT Tryz.prog 160 = some [.nilf] := by kernel_rfl
theorem eql1T160 {f : Nat} {c : List (Nat × Nat × Nat)}  : abin Tryz.prog .eql 160 (.c (.f f c)) (.c .nilf) = some (.c (.b false)) := by kernel_rfl
theorem eql2T160 : abin Tryz.prog .eql 160 (.c .nilf) (.c .nilf) = some (.c (.b true)) := by kernel_rfl
theorem neq1T160 {f : Nat} {c : List (Nat × Nat × Nat)}  : abin Tryz.prog .neq 160 (.c (.f f c)) (.c .nilf) = some (.c (.b true)) := by kernel_rfl
theorem neq2T160 : abin Tryz.prog .neq 160 (.c .nilf) (.c .nilf) = some (.c (.b false)) := by kernel_rfl
theorem mT161 : mT Tryz.prog 161 = some (182, 121) := by kernel_rfl
theorem kA182 : kA Tryz.prog 182 = some true := by kernel_rfl
theorem kOkG182 {l : List Sc} : kOk Tryz.prog 182 (.g l) = decide (l.length = 2) := by unfold kOk; rw [kA182]; rfl
theorem zA121 : zA Tryz.prog 121 = some (.g (zRow 64 (.k .u8 (0)))) := by kernel_rfl
theorem dT162 : dT Tryz.prog 162 = .st [(0, 3), (1, 161)] := by kernel_rfl
theorem sT162 : szT Tryz.prog 162 = 2 := by kernel_rfl
theorem bT162 : byT Tryz.prog 162 = 16 := by kernel_rfl
theorem zT162 : zT Tryz.prog 162 = some [.i 0, .nilm] := by kernel_rfl
theorem dT163 : dT Tryz.prog 163 = .st [(0, 3), (1, 161)] := by kernel_rfl
theorem sT163 : szT Tryz.prog 163 = 2 := by kernel_rfl
theorem bT163 : byT Tryz.prog 163 = 16 := by kernel_rfl
theorem zT163 : zT Tryz.prog 163 = some [.i 0, .nilm] := by kernel_rfl
theorem dT164 : dT Tryz.prog 164 = .sl 170 := by kernel_rfl
theorem sT164 : szT Tryz.prog 164 = 1 := by kernel_rfl
theorem bT164 : byT Tryz.prog 164 = 24 := by kernel_rfl
theorem zT164 : zT Tryz.prog 164 = some [.nils] := by kernel_rfl
theorem eql1T164 {a b c n : Nat}  : abin Tryz.prog .eql 164 (.c (.sl a b c n)) (.c .nils) = if n = 0 then some (.c .qq) else some (.c (.b false)) := by kernel_rfl
theorem eql2T164 : abin Tryz.prog .eql 164 (.c .nils) (.c .nils) = some (.c (.b true)) := by kernel_rfl
theorem neq1T164 {a b c n : Nat}  : abin Tryz.prog .neq 164 (.c (.sl a b c n)) (.c .nils) = if n = 0 then some (.c .qq) else some (.c (.b true)) := by kernel_rfl
theorem neq2T164 : abin Tryz.prog .neq 164 (.c .nils) (.c .nils) = some (.c (.b false)) := by kernel_rfl
theorem dT165 : dT Tryz.prog 165 = .other := by kernel_rfl
theorem sT165 : szT Tryz.prog 165 = 1 := by kernel_rfl
theorem bT165 : byT Tryz.prog 165 = 8 := by kernel_rfl
theorem zT165 : zT Tryz.prog 165 = some [.nilf] := by kernel_rfl
theorem eql1T165 {f : Nat} {c : List (Nat × Nat × Nat)}  : abin Tryz.prog .eql 165 (.c (.f f c)) (.c .nilf) = some (.c (.b false)) := by kernel_rfl
theorem eql2T165 : abin Tryz.prog .eql 165 (.c .nilf) (.c .nilf) = some (.c (.b true)) := by kernel_rfl
theorem neq1T165 {f : Nat} {c : List (Nat × Nat × Nat)}  : abin Tryz.prog .neq 165 (.c (.f f c)) (.c .nilf) = some (.c (.b true)) := by kernel_rfl
theorem neq2T165 : abin Tryz.prog .neq 165 (.c .nilf) (.c .nilf) = some (.c (.b false)) := by kernel_rfl
theorem dT166 : dT Tryz.prog 166 = .st [(0, 22), (1, 22), (2, 3), (3, 3)] := by kernel_rfl
theorem sT166 : szT Tryz.prog 166 = 4 := by kernel_rfl
theorem bT166 : byT Tryz.prog 166 = 32 := by kernel_rfl
theorem zT166 : zT Tryz.prog 166 = some [.u 0#64, .u 0#64, .i 0, .i 0] := by kernel_rfl
theorem dT167 : dT Tryz.prog 167 = .st [(0, 22), (1, 22), (2, 3), (3, 3)] := by kernel_rfl
theorem sT167 : szT Tryz.prog 167 = 4 := by kernel_rfl
theorem bT167 : byT Tryz.prog 167 = 32 := by kernel_rfl
theorem zT167 : zT Tryz.prog 167 = some [.u 0#64, .u 0#64, .i 0, .i 0] := by kernel_rfl
theorem gT167 : tagsT Tryz.prog 12 167 = some [.n, .n, .n, .n] := by kernel_rfl
theorem eqT167 {a b : List Sc} : abin Tryz.prog .eql 167 (.g a) (.g b) = (csEq [.n, .n, .n, .n] a b).bind (eqU .eql) := ab_g_eql _ (by simp only [dT167, D.agg]) gT167
theorem neT167 {a b : List Sc} : abin Tryz.prog .neq 167 (.g a) (.g b) = (csEq [.n, .n, .n, .n] a b).bind (eqU .neq) := ab_g_neq _ (by simp only [dT167, D.agg]) gT167
theorem dT168 : dT Tryz.prog 168 = .other := by kernel_rfl
theorem sT168 : szT Tryz.prog 168 = 1 := by kernel_rfl
theorem bT168 : byT Tryz.prog 168 = 8 := by kernel_rfl
theorem zT168 : zT Tryz.prog 168 = some [.nilf] := by kernel_rfl
theorem eql1T168 {f : Nat} {c : List (Nat × Nat × Nat)}  : abin Tryz.prog .eql 168 (.c (.f f c)) (.c .nilf) = some (.c (.b false)) := by kernel_rfl
theorem eql2T168 : abin Tryz.prog .eql 168 (.c .nilf) (.c .nilf) = some (.c (.b true)) := by kernel_rfl
theorem neq1T168 {f : Nat} {c : List (Nat × Nat × Nat)}  : abin Tryz.prog .neq 168 (.c (.f f c)) (.c .nilf) = some (.c (.b true)) := by kernel_rfl
theorem neq2T168 : abin Tryz.prog .neq 168 (.c .nilf) (.c .nilf) = some (.c (.b false)) := by kernel_rfl
theorem dT169 : dT Tryz.prog 169 = .st [(0, 22), (1, 3), (2, 3)] := by kernel_rfl
theorem sT169 : szT Tryz.prog 169 = 3 := by kernel_rfl
theorem bT169 : byT Tryz.prog 169 = 24 := by kernel_rfl
theorem zT169 : zT Tryz.prog 169 = some [.u 0#64, .i 0, .i 0] := by kernel_rfl
theorem dT170 : dT Tryz.prog 170 = .st [(0, 22), (1, 3), (2, 3)] := by kernel_rfl
theorem sT170 : szT Tryz.prog 170 = 3 := by kernel_rfl
theorem bT170 : byT Tryz.prog 170 = 24 := by kernel_rfl
theorem zT170 : zT Tryz.prog 170 = some [.u 0#64, .i 0, .i 0] := by kernel_rfl
theorem gT170 : tagsT Tryz.prog 12 170 = some [.n, .n, .n] := by kernel_rfl
theorem eqT170 {a b : List Sc} : abin Tryz.prog .eql 170 (.g a) (.g b) = (csEq [.n, .n, .n] a b).bind (eqU .eql) := ab_g_eql _ (by simp only [dT170, D.agg]) gT170
theorem neT170 {a b : List Sc} : abin Tryz.prog .neq 170 (.g a) (.g b) = (csEq [.n, .n, .n] a b).bind (eqU .neq) := ab_g_neq _ (by simp only [dT170, D.agg]) gT170
theorem dT171 : dT Tryz.prog 171 = .sl 22 := by kernel_rfl
theorem sT171 : szT Tryz.prog 171 = 1 := by kernel_rfl
theorem bT171 : byT Tryz.prog 171 = 24 := by kernel_rfl
theorem zT171 : zT Tryz.prog 171 = some [.nils] := by kernel_rfl
theorem eql1T171 {a b c n : Nat}  : abin Tryz.prog .eql 171 (.c (.sl a b c n)) (.c .nils) = if n = 0 then some (.c .qq) else some (.c (.b false)) := by kernel_rfl
theorem eql2T171 : abin Tryz.prog .eql 171 (.c .nils) (.c .nils) = some (.c (.b true)) := by kernel_rfl
theorem neq1T171 {a b c n : Nat}  : abin Tryz.prog .neq 171 (.c (.sl a b c n)) (.c .nils) = if n = 0 then some (.c .qq) else some (.c (.b true)) := by kernel_rfl
theorem neq2T171 : abin Tryz.prog .neq 171 (.c .nils) (.c .nils) = some (.c (.b false)) := by kernel_rfl
theorem dT172 : dT Tryz.prog 172 = .other := by kernel_rfl
theorem sT172 : szT Tryz.prog 172 = 1 := by kernel_rfl
theorem bT172 : byT Tryz.prog 172 = 8 := by kernel_rfl
theorem zT172 : zT Tryz.prog 172 = some [.nilf] := by kernel_rfl
theorem eql1T172 {f : Nat} {c : List (Nat × Nat × Nat)}  : abin Tryz.prog .eql 172 (.c (.f f c)) (.c .nilf) = some (.c (.b false)) := by kernel_rfl
theorem eql2T172 : abin Tryz.prog .eql 172 (.c .nilf) (.c .nilf) = some (.c (.b true)) := by kernel_rfl
theorem neq1T172 {f : Nat} {c : List (Nat × Nat × Nat)}  : abin Tryz.prog .neq 172 (.c (.f f c)) (.c .nilf) = some (.c (.b true)) := by kernel_rfl
theorem neq2T172 : abin Tryz.prog .neq 172 (.c .nilf) (.c .nilf) = some (.c (.b false)) := by kernel_rfl
theorem dT173 : dT Tryz.prog 173 = .other := by kernel_rfl
theorem sT173 : szT Tryz.prog 173 = 1 := by kernel_rfl
theorem bT173 : byT Tryz.prog 173 = 8 := by kernel_rfl
theorem zT173 : zT Tryz.prog 173 = some [.nilf] := by kernel_rfl
theorem eql1T173 {f : Nat} {c : List (Nat × Nat × Nat)}  : abin Tryz.prog .eql 173 (.c (.f f c)) (.c .nilf) = some (.c (.b false)) := by kernel_rfl
theorem eql2T173 : abin Tryz.prog .eql 173 (.c .nilf) (.c .nilf) = some (.c (.b true)) := by kernel_rfl
theorem neq1T173 {f : Nat} {c : List (Nat × Nat × Nat)}  : abin Tryz.prog .neq 173 (.c (.f f c)) (.c .nilf) = some (.c (.b true)) := by kernel_rfl
theorem neq2T173 : abin Tryz.prog .neq 173 (.c .nilf) (.c .nilf) = some (.c (.b false)) := by kernel_rfl
theorem dT174 : dT Tryz.prog 174 = .other := by kernel_rfl
theorem sT174 : szT Tryz.prog 174 = 1 := by kernel_rfl
theorem bT174 : byT Tryz.prog 174 = 8 := by kernel_rfl
theorem zT174 : zT Tryz.prog 174 = some [.nilf] := by kernel_rfl
theorem eql1T174 {f : Nat} {c : List (Nat × Nat × Nat)}  : abin Tryz.prog .eql 174 (.c (.f f c)) (.c .nilf) = some (.c (.b false)) := by kernel_rfl
theorem eql2T174 : abin Tryz.prog .eql 174 (.c .nilf) (.c .nilf) = some (.c (.b true)) := by kernel_rfl
theorem neq1T174 {f : Nat} {c : List (Nat × Nat × Nat)}  : abin Tryz.prog .neq 174 (.c (.f f c)) (.c .nilf) = some (.c (.b true)) := by kernel_rfl
theorem neq2T174 : abin Tryz.prog .neq 174 (.c .nilf) (.c .nilf) = some (.c (.b false)) := by kernel_rfl
theorem dT175 : dT Tryz.prog 175 = .other := by kernel_rfl
theorem sT175 : szT Tryz.prog 175 = 1 := by kernel_rfl
theorem bT175 : byT Tryz.prog 175 = 8 := by kernel_rfl
theorem zT175 : zT Tryz.prog 175 = some [.nilf] := by kernel_rfl
theorem eql1T175 {f : Nat} {c : List (Nat × Nat × Nat)}  : abin Tryz.prog .eql 175 (.c (.f f c)) (.c .nilf) = some (.c (.b false)) := by kernel_rfl
theorem eql2T175 : abin Tryz.prog .eql 175 (.c .nilf) (.c .nilf) = some (.c (.b true)) := by kernel_rfl
theorem neq1T175 {f : Nat} {c : List (Nat × Nat × Nat)}  : abin Tryz.prog .neq 175 (.c (.f f c)) (.c .nilf) = some (.c (.b true)) := by kernel_rfl
theorem neq2T175 : abin Tryz.prog .neq 175 (.c .nilf) (.c .nilf) = some (.c (.b false)) := by kernel_rfl
theorem dT177 : dT Tryz.prog 177 = .other := by kernel_rfl
theorem sT177 : szT Tryz.prog 177 = 1 := by kernel_rfl
theorem bT177 : byT Tryz.prog 177 = 8 := by kernel_rfl
theorem zT177 : zT Tryz.prog 177 = some [.nilf] := by kernel_rfl
theorem eql1T177 {f : Nat} {c : List (Nat × Nat × Nat)}  : abin Tryz.prog .eql 177 (.c (.f f c)) (.c .nilf) = some (.c (.b false)) := by kernel_rfl
theorem eql2T177 : abin Tryz.prog .eql 177 (.c .nilf) (.c .nilf) = some (.c (.b true)) := by kernel_rfl
theorem neq1T177 {f : Nat} {c : List (Nat × Nat × Nat)}  : abin Tryz.prog .neq 177 (.c (.f f c)) (.c .nilf) = some (.c (.b true)) := by kernel_rfl
theorem neq2T177 : abin Tryz.prog .neq 177 (.c .nilf) (.c .nilf) = some (.c (.b false)) := by kernel_rfl
theorem dT178 : dT Tryz.prog 178 = .other := by kernel_rfl
theorem sT178 : szT Tryz.prog 178 = 1 := by kernel_rfl
theorem bT178 : byT Tryz.prog 178 = 8 := by kernel_rfl
theorem zT178 : zT Tryz.prog 178 = some [.nilf] := by kernel_rfl
theorem eql1T178 {f : Nat} {c : List (Nat × Nat × Nat)}  : abin Tryz.prog .eql 178 (.c (.f f c)) (.c .nilf) = some (.c (.b false)) := by kernel_rfl
theorem eql2T178 : abin Tryz.prog .eql 178 (.c .nilf) (.c .nilf) = some (.c (.b true)) := by kernel_rfl
theorem neq1T178 {f : Nat} {c : List (Nat × Nat × Nat)}  : abin Tryz.prog .neq 178 (.c (.f f c)) (.c .nilf) = some (.c (.b true)) := by kernel_rfl
theorem neq2T178 : abin Tryz.prog .neq 178 (.c .nilf) (.c .nilf) = some (.c (.b false)) := by kernel_rfl
theorem dT179 : dT Tryz.prog 179 = .other := by kernel_rfl
theorem sT179 : szT Tryz.prog 179 = 1 := by kernel_rfl
theorem bT179 : byT Tryz.prog 179 = 8 := by kernel_rfl
theorem zT179 : zT Tryz.prog 179 = some [.nilf] := by kernel_rfl
theorem eql1T179 {f : Nat} {c : List (Nat × Nat × Nat)}  : abin Tryz.prog .eql 179 (.c (.f f c)) (.c .nilf) = some (.c (.b false)) := by kernel_rfl
theorem eql2T179 : abin Tryz.prog .eql 179 (.c .nilf) (.c .nilf) = some (.c (.b true)) := by kernel_rfl
theorem neq1T179 {f : Nat} {c : List (Nat × Nat × Nat)}  : abin Tryz.prog .neq 179 (.c (.f f c)) (.c .nilf) = some (.c (.b true)) := by kernel_rfl
theorem neq2T179 : abin Tryz.prog .neq 179 (.c .nilf) (.c .nilf) = some (.c (.b false)) := by kernel_rfl
theorem dT180 : dT Tryz.prog 180 = .other := by kernel_rfl
theorem sT180 : szT Tryz.prog 180 = 1 := by kernel_rfl
theorem bT180 : byT Tryz.prog 180 = 8 := by kernel_rfl
theorem zT180 : zT Tryz.prog 180 = some [.nilf] := by kernel_rfl
theorem eql1T180 {f : Nat} {c : List (Nat × Nat × Nat)}  : abin Tryz.prog .eql 180 (.c (.f f c)) (.c .nilf) = some (.c (.b false)) := by kernel_rfl
theorem eql2T180 : abin Tryz.prog .eql 180 (.c .nilf) (.c .nilf) = some (.c (.b true)) := by kernel_rfl
theorem neq1T180 {f : Nat} {c : List (Nat × Nat × Nat)}  : abin Tryz.prog .neq 180 (.c (.f f c)) (.c .nilf) = some (.c (.b true)) := by kernel_rfl
theorem neq2T180 : abin Tryz.prog .neq 180 (.c .nilf) (.c .nilf) = some (.c (.b false)) := by kernel_rfl
theorem dT181 : dT Tryz.prog 181 = .st [(0, 3), (1, 3)] := by kernel_rfl
theorem sT181 : szT Tryz.prog 181 = 2 := by kernel_rfl
theorem bT181 : byT Tryz.prog 181 = 16 := by kernel_rfl
theorem zT181 : zT Tryz.prog 181 = some [.i 0, .i 0] := by kernel_rfl
theorem dT182 : dT Tryz.prog 182 = .st [(0, 3), (1, 3)] := by kernel_rfl
theorem sT182 : szT Tryz.prog 182 = 2 := by kernel_rfl
theorem bT182 : byT Tryz.prog 182 = 16 := by kernel_rfl
theorem zT182 : zT Tryz.prog 182 = some [.i 0, .i 0] := by kernel_rfl
theorem gT182 : tagsT Tryz.prog 12 182 = some [.n, .n] := by kernel_rfl
theorem eqT182 {a b : List Sc} : abin Tryz.prog .eql 182 (.g a) (.g b) = (csEq [.n, .n] a b).bind (eqU .eql) := ab_g_eql _ (by simp only [dT182, D.agg]) gT182
theorem neT182 {a b : List Sc} : abin Tryz.prog .neq 182 (.g a) (.g b) = (csEq [.n, .n] a b).bind (eqU .neq) := ab_g_neq _ (by simp only [dT182, D.agg]) gT182
theorem dT183 : dT Tryz.prog 183 = .other := by kernel_rfl
theorem sT183 : szT Tryz.prog 183 = 1 := by kernel_rfl
theorem bT183 : byT Tryz.prog 183 = 8 := by kernel_rfl
theorem zT183 : zT Tryz.prog 183 = some [.nilf] := by kernel_rfl
theorem eql1T183 {f : Nat} {c : List (Nat × Nat × Nat)}  : abin Tryz.prog .eql 183 (.c (.f f c)) (.c .nilf) = some (.c (.b false)) := by kernel_rfl
theorem eql2T183 : abin Tryz.prog .eql 183 (.c .nilf) (.c .nilf) = some (.c (.b true)) := by kernel_rfl
theorem neq1T183 {f : Nat} {c : List (Nat × Nat × Nat)}  : abin Tryz.prog .neq 183 (.c (.f f c)) (.c .nilf) = some (.c (.b true)) := by kernel_rfl
theorem neq2T183 : abin Tryz.prog .neq 183 (.c .nilf) (.c .nilf) = some (.c (.b false)) := by kernel_rfl
theorem dT184 : dT Tryz.prog 184 = .other := by kernel_rfl
theorem sT184 : szT Tryz.prog 184 = 1 := by kernel_rfl
theorem bT184 : byT Tryz.prog 184 = 8 := by kernel_rfl
theorem zT184 : zT Tryz.prog 184 = some [.nilf] := by kernel_rfl
theorem eql1T184 {f : Nat} {c : List (Nat × Nat × Nat)}  : abin Tryz.prog .eql 184 (.c (.f f c)) (.c .nilf) = some (.c (.b false)) := by kernel_rfl
theorem eql2T184 : abin Tryz.prog .eql 184 (.c .nilf) (.c .nilf) = some (.c (.b true)) := by kernel_rfl
theorem neq1T184 {f : Nat} {c : List (Nat × Nat × Nat)}  : abin Tryz.prog .neq 184 (.c (.f f c)) (.c .nilf) = some (.c (.b true)) := by kernel_rfl
theorem neq2T184 : abin Tryz.prog .neq 184 (.c .nilf) (.c .nilf) = some (.c (.b false)) := by kernel_rfl
theorem dT185 : dT Tryz.prog 185 = .other := by kernel_rfl
theorem sT185 : szT Tryz.prog 185 = 1 := by kernel_rfl
theorem bT185 : byT Tryz.prog 185 = 8 := by kernel_rfl
theorem zT185 : zT Tryz.prog 185 = some [.nilf] := by kernel_rfl
theorem eql1T185 {f : Nat} {c : List (Nat × Nat × Nat)}  : abin Tryz.prog .eql 185 (.c (.f f c)) (.c .nilf) = some (.c (.b false)) := by kernel_rfl
theorem eql2T185 : abin Tryz.prog .eql 185 (.c .nilf) (.c .nilf) = some (.c (.b true)) := by kernel_rfl
theorem neq1T185 {f : Nat} {c : List (Nat × Nat × Nat)}  : abin Tryz.prog .neq 185 (.c (.f f c)) (.c .nilf) = some (.c (.b true)) := by kernel_rfl
theorem neq2T185 : abin Tryz.prog .neq 185 (.c .nilf) (.c .nilf) = some (.c (.b false)) := by kernel_rfl
theorem dT186 : dT Tryz.prog 186 = .other := by kernel_rfl
theorem sT186 : szT Tryz.prog 186 = 1 := by kernel_rfl
theorem bT186 : byT Tryz.prog 186 = 8 := by kernel_rfl
theorem zT186 : zT Tryz.prog 186 = some [.nilf] := by kernel_rfl
theorem eql1T186 {f : Nat} {c : List (Nat × Nat × Nat)}  : abin Tryz.prog .eql 186 (.c (.f f c)) (.c .nilf) = some (.c (.b false)) := by kernel_rfl
theorem eql2T186 : abin Tryz.prog .eql 186 (.c .nilf) (.c .nilf) = some (.c (.b true)) := by kernel_rfl
theorem neq1T186 {f : Nat} {c : List (Nat × Nat × Nat)}  : abin Tryz.prog .neq 186 (.c (.f f c)) (.c .nilf) = some (.c (.b true)) := by kernel_rfl
theorem neq2T186 : abin Tryz.prog .neq 186 (.c .nilf) (.c .nilf) = some (.c (.b false)) := by kernel_rfl
theorem dT188 : dT Tryz.prog 188 = .other := by kernel_rfl
theorem sT188 : szT Tryz.prog 188 = 1 := by kernel_rfl
theorem bT188 : byT Tryz.prog 188 = 8 := by kernel_rfl
theorem zT188 : zT Tryz.prog 188 = some [.nilf] := by kernel_rfl
theorem eql1T188 {f : Nat} {c : List (Nat × Nat × Nat)}  : abin Tryz.prog .eql 188 (.c (.f f c)) (.c .nilf) = some (.c (.b false)) := by kernel_rfl
theorem eql2T188 : abin Tryz.prog .eql 188 (.c .nilf) (.c .nilf) = some (.c (.b true)) := by kernel_rfl
theorem neq1T188 {f : Nat} {c : List (Nat × Nat × Nat)}  : abin Tryz.prog .neq 188 (.c (.f f c)) (.c .nilf) = some (.c (.b true)) := by kernel_rfl
theorem neq2T188 : abin Tryz.prog .neq 188 (.c .nilf) (.c .nilf) = some (.c (.b false)) := by kernel_rfl
theorem dT189 : dT Tryz.prog 189 = .other := by kernel_rfl
theorem sT189 : szT Tryz.prog 189 = 1 := by kernel_rfl
theorem bT189 : byT Tryz.prog 189 = 8 := by kernel_rfl
theorem zT189 : zT Tryz.prog 189 = some [.nilf] := by kernel_rfl
theorem eql1T189 {f : Nat} {c : List (Nat × Nat × Nat)}  : abin Tryz.prog .eql 189 (.c (.f f c)) (.c .nilf) = some (.c (.b false)) := by kernel_rfl
theorem eql2T189 : abin Tryz.prog .eql 189 (.c .nilf) (.c .nilf) = some (.c (.b true)) := by kernel_rfl
theorem neq1T189 {f : Nat} {c : List (Nat × Nat × Nat)}  : abin Tryz.prog .neq 189 (.c (.f f c)) (.c .nilf) = some (.c (.b true)) := by kernel_rfl
theorem neq2T189 : abin Tryz.prog .neq 189 (.c .nilf) (.c .nilf) = some (.c (.b false)) := by kernel_rfl
theorem dT190 : dT Tryz.prog 190 = .ptr 132 := by kernel_rfl
theorem sT190 : szT Tryz.prog 190 = 1 := by kernel_rfl
theorem bT190 : byT Tryz.prog 190 = 8 := by kernel_rfl
theorem zT190 : zT Tryz.prog 190 = some [.nilp] := by kernel_rfl
theorem eql1T190 {a b c : Nat}  : abin Tryz.prog .eql 190 (.c (.p a b c)) (.c .nilp) = some (.c (.b false)) := by kernel_rfl
theorem eql2T190 : abin Tryz.prog .eql 190 (.c .nilp) (.c .nilp) = some (.c (.b true)) := by kernel_rfl
theorem neq1T190 {a b c : Nat}  : abin Tryz.prog .neq 190 (.c (.p a b c)) (.c .nilp) = some (.c (.b true)) := by kernel_rfl
theorem neq2T190 : abin Tryz.prog .neq 190 (.c .nilp) (.c .nilp) = some (.c (.b false)) := by kernel_rfl
theorem dT191 : dT Tryz.prog 191 = .st [(0, 5), (1, 5), (2, 5), (3, 5), (4, 5), (5, 5), (6, 4), (7, 4), (8, 4), (9, 23), (10, 23)] := by kernel_rfl
theorem sT191 : szT Tryz.prog 191 = 11 := by kernel_rfl
theorem bT191 : byT Tryz.prog 191 = 64 := by kernel_rfl
theorem zT191 : zT Tryz.prog 191 = some [.k .u8 (0), .k .u8 (0), .k .u8 (0), .k .u8 (0), .k .u8 (0), .k .u8 (0), .b false, .b false, .b false, .nils, .nils] := by kernel_rfl
theorem dT192 : dT Tryz.prog 192 = .st [(0, 5), (1, 5), (2, 5), (3, 5), (4, 5), (5, 5), (6, 4), (7, 4), (8, 4), (9, 23), (10, 23)] := by kernel_rfl
theorem sT192 : szT Tryz.prog 192 = 11 := by kernel_rfl
theorem bT192 : byT Tryz.prog 192 = 64 := by kernel_rfl
theorem zT192 : zT Tryz.prog 192 = some [.k .u8 (0), .k .u8 (0), .k .u8 (0), .k .u8 (0), .k .u8 (0), .k .u8 (0), .b false, .b false, .b false, .nils, .nils] := by kernel_rfl
theorem dT193 : dT Tryz.prog 193 = .ptr 138 := by kernel_rfl
theorem sT193 : szT Tryz.prog 193 = 1 := by kernel_rfl
theorem bT193 : byT Tryz.prog 193 = 8 := by kernel_rfl
theorem zT193 : zT Tryz.prog 193 = some [.nilp] := by kernel_rfl
theorem eql1T193 {a b c : Nat}  : abin Tryz.prog .eql 193 (.c (.p a b c)) (.c .nilp) = some (.c (.b false)) := by kernel_rfl
theorem eql2T193 : abin Tryz.prog .eql 193 (.c .nilp) (.c .nilp) = some (.c (.b true)) := by kernel_rfl
theorem neq1T193 {a b c : Nat}  : abin Tryz.prog .neq 193 (.c (.p a b c)) (.c .nilp) = some (.c (.b true)) := by kernel_rfl
theorem neq2T193 : abin Tryz.prog .neq 193 (.c .nilp) (.c .nilp) = some (.c (.b false)) := by kernel_rfl
theorem dT194 : dT Tryz.prog 194 = .other := by kernel_rfl
theorem sT194 : szT Tryz.prog 194 = 1 := by kernel_rfl
theorem bT194 : byT Tryz.prog 194 = 8 := by kernel_rfl
theorem zT194 : zT Tryz.prog 194 = some [.nilf] := by kernel_rfl
theorem eql1T194 {f : Nat} {c : List (Nat × Nat × Nat)}  : abin Tryz.prog .eql 194 (.c (.f f c)) (.c .nilf) = some (.c (.b false)) := by kernel_rfl
theorem eql2T194 : abin Tryz.prog .eql 194 (.c .nilf) (.c .nilf) = some (.c (.b true)) := by kernel_rfl
theorem neq1T194 {f : Nat} {c : List (Nat × Nat × Nat)}  : abin Tryz.prog .neq 194 (.c (.f f c)) (.c .nilf) = some (.c (.b true)) := by kernel_rfl
theorem neq2T194 : abin Tryz.prog .neq 194 (.c .nilf) (.c .nilf) = some (.c (.b false)) := by kernel_rfl
theorem dT195 : dT Tryz.prog 195 = .other := by kernel_rfl
theorem sT195 : szT Tryz.prog 195 = 1 := by kernel_rfl
theorem bT195 : byT Tryz.prog 195 = 8 := by kernel_rfl
theorem zT195 : zT Tryz.prog 195 = some [.nilf] := by kernel_rfl
theorem eql1T195 {f : Nat} {c : List (Nat × Nat × Nat)}  : abin Tryz.prog .eql 195 (.c (.f f c)) (.c .nilf) = some (.c (.b false)) := by kernel_rfl
theorem eql2T195 : abin Tryz.prog .eql 195 (.c .nilf) (.c .nilf) = some (.c (.b true)) := by kernel_rfl
theorem neq1T195 {f : Nat} {c : List (Nat × Nat × Nat)}  : abin Tryz.prog .neq 195 (.c (.f f c)) (.c .nilf) = some (.c (.b true)) := by kernel_rfl
theorem neq2T195 : abin Tryz.prog .neq 195 (.c .nilf) (.c .nilf) = some (.c (.b false)) := by kernel_rfl
theorem dT196 : dT Tryz.prog 196 = .other := by kernel_rfl
theorem sT196 : szT Tryz.prog 196 = 1 := by kernel_rfl
theorem bT196 : byT Tryz.prog 196 = 8 := by kernel_rfl
theorem zT196 : zT Tryz.prog 196 = some [.nilf] := by kernel_rfl
theorem eql1T196 {f : Nat} {c : List (Nat × Nat × Nat)}  : abin Tryz.prog .eql 196 (.c (.f f c)) (.c .nilf) = some (.c (.b false)) := by kernel_rfl
theorem eql2T196 : abin Tryz.prog .eql 196 (.c .nilf) (.c .nilf) = some (.c (.b true)) := by kernel_rfl
theorem neq1T196 {f : Nat} {c : List (Nat × Nat × Nat)}  : abin Tryz.prog .neq 196 (.c (.f f c)) (.c .nilf) = some (.c (.b true)) := by kernel_rfl
theorem neq2T196 : abin Tryz.prog .neq 196 (.c .nilf) (.c .nilf) = some (.c (.b false)) := by kernel_rfl
theorem dT197 : dT Tryz.prog 197 = .arr 9 5 := by kernel_rfl
theorem sT197 : szT Tryz.prog 197 = 9 := by kernel_rfl
theorem bT197 : byT Tryz.prog 197 = 9 := by kernel_rfl
theorem zT197 : zT Tryz.prog 197 = some [.k .u8 (0), .k .u8 (0), .k .u8 (0), .k .u8 (0), .k .u8 (0), .k .u8 (0), .k .u8 (0), .k .u8 (0), .k .u8 (0)] := by kernel_rfl
theorem gT197 : tagsT Tryz.prog 12 197 = some [.n, .n, .n, .n, .n, .n, .n, .n, .n] := by kernel_rfl
theorem eqT197 {a b : List Sc} : abin Tryz.prog .eql 197 (.g a) (.g b) = (csEq [.n, .n, .n, .n, .n, .n, .n, .n, .n] a b).bind (eqU .eql) := ab_g_eql _ (by simp only [dT197, D.agg]) gT197
theorem neT197 {a b : List Sc} : abin Tryz.prog .neq 197 (.g a) (.g b) = (csEq [.n, .n, .n, .n, .n, .n, .n, .n, .n] a b).bind (eqU .neq) := ab_g_neq _ (by simp only [dT197, D.agg]) gT197
theorem dT198 : dT Tryz.prog 198 = .other := by kernel_rfl
theorem sT198 : szT Tryz.prog 198 = 1 := by kernel_rfl
theorem bT198 : byT Tryz.prog 198 = 8 := by kernel_rfl
theorem zT198 : zT Tryz.prog 198 = some [.nilf] := by kernel_rfl
theorem eql1T198 {f : Nat} {c : List (Nat × Nat × Nat)}  : abin Tryz.prog .eql 198 (.c (.f f c)) (.c .nilf) = some (.c (.b false)) := by kernel_rfl
theorem eql2T198 : abin Tryz.prog .eql 198 (.c .nilf) (.c .nilf) = some (.c (.b true)) := by kernel_rfl
theorem neq1T198 {f : Nat} {c : List (Nat × Nat × Nat)}  : abin Tryz.prog .neq 198 (.c (.f f c)) (.c .nilf) = some (.c (.b true)) := by kernel_rfl
theorem neq2T198 : abin Tryz.prog .neq 198 (.c .nilf) (.c .nilf) = some (.c (.b false)) := by kernel_rfl
theorem dT199 : dT Tryz.prog 199 = .other := by kernel_rfl
theorem sT199 : szT Tryz.prog 199 = 1 := by kernel_rfl
theorem bT199 : byT Tryz.prog 199 = 8 := by kernel_rfl
theorem zT199 : zT Tryz.prog 199 = some [.nilf] := by kernel_rfl
theorem eql1T199 {f : Nat} {c : List (Nat × Nat × Nat)}  : abin Tryz.prog .eql 199 (.c (.f f c)) (.c .nilf) = some (.c (.b false)) := by kernel_rfl
theorem eql2T199 : abin Tryz.prog .eql 199 (.c .nilf) (.c .nilf) = some (.c (.b true)) := by kernel_rfl
theorem neq1T199 {f : Nat} {c : List (Nat × Nat × Nat)}  : abin Tryz.prog .neq 199 (.c (.f f c)) (.c .nilf) = some (.c (.b true)) := by kernel_rfl
theorem neq2T199 : abin Tryz.prog .neq 199 (.c .nilf) (.c .nilf) = some (.c (.b false)) := by kernel_rfl
theorem dT200 : dT Tryz.prog 200 = .other := by kernel_rfl
theorem sT200 : szT Tryz.prog 200 = 1 := by kernel_rfl
theorem bT200 : byT Tryz.prog 200 = 8 := by kernel_rfl
theorem zT200 : zT Tryz.prog 200 = some [.nilf] := by kernel_rfl
theorem eql1T200 {f : Nat} {c : List (Nat × Nat × Nat)}  : abin Tryz.prog .eql 200 (.c (.f f c)) (.c .nilf) = some (.c (.b false)) := by kernel_rfl
theorem eql2T200 : abin Tryz.prog .eql 200 (.c .nilf) (.c .nilf) = some (.c (.b true)) := by kernel_rfl
theorem neq1T200 {f : Nat} {c : List (Nat × Nat × Nat)}  : abin Tryz.prog .neq 200 (.c (.f f c)) (.c .nilf) = some (.c (.b true)) := by kernel_rfl
theorem neq2T200 : abin Tryz.prog .neq 200 (.c .nilf) (.c .nilf) = some (.c (.b false)) := by kernel_rfl
theorem dT201 : dT Tryz.prog 201 = .other := by kernel_rfl
theorem sT201 : szT Tryz.prog 201 = 1 := by kernel_rfl
theorem bT201 : byT Tryz.prog 201 = 8 := by kernel_rfl
theorem zT201 : zT Tryz.prog 201 = some [.nilf] := by kernel_rfl
theorem eql1T201 {f : Nat} {c : List (Nat × Nat × Nat)}  : abin Tryz.prog .eql 201 (.c (.f f c)) (.c .nilf) = some (.c (.b false)) := by kernel_rfl
theorem eql2T201 : abin Tryz.prog .eql 201 (.c .nilf) (.c .nilf) = some (.c (.b true)) := by kernel_rfl
theorem neq1T201 {f : Nat} {c : List (Nat × Nat × Nat)}  : abin Tryz.prog .neq 201 (.c (.f f c)) (.c .nilf) = some (.c (.b true)) := by kernel_rfl
theorem neq2T201 : abin Tryz.prog .neq 201 (.c .nilf) (.c .nilf) = some (.c (.b false)) := by kernel_rfl
theorem dT202 : dT Tryz.prog 202 = .other := by kernel_rfl
theorem sT202 : szT Tryz.prog 202 = 1 := by kernel_rfl
theorem bT202 : byT Tryz.prog 202 = 8 := by kernel_rfl
theorem zT202 : zT Tryz.prog 202 = some [.nilf] := by kernel_rfl
theorem eql1T202 {f : Nat} {c : List (Nat × Nat × Nat)}  : abin Tryz.prog .eql 202 (.c (.f f c)) (.c .nilf) = some (.c (.b false)) := by kernel_rfl
theorem eql2T202 : abin Tryz.prog .eql 202 (.c .nilf) (.c .nilf) = some (.c (.b true)) := by kernel_rfl
theorem neq1T202 {f : Nat} {c : List (Nat × Nat × Nat)}  : abin Tryz.prog .neq 202 (.c (.f f c)) (.c .nilf) = some (.c (.b true)) := by kernel_rfl
theorem neq2T202 : abin Tryz.prog .neq 202 (.c .nilf) (.c .nilf) = some (.c (.b false)) := by kernel_rfl
theorem dT203 : dT Tryz.prog 203 = .other := by kernel_rfl
theorem sT203 : szT Tryz.prog 203 = 1 := by kernel_rfl
theorem bT203 : byT Tryz.prog 203 = 8 := by kernel_rfl
theorem zT203 : zT Tryz.prog 203 = some [.nilf] := by kernel_rfl
theorem eql1T203 {f : Nat} {c : List (Nat × Nat × Nat)}  : abin Tryz.prog .eql 203 (.c (.f f c)) (.c .nilf) = some (.c (.b false)) := by kernel_rfl
theorem eql2T203 : abin Tryz.prog .eql 203 (.c .nilf) (.c .nilf) = some (.c (.b true)) := by kernel_rfl
theorem neq1T203 {f : Nat} {c : List (Nat × Nat × Nat)}  : abin Tryz.prog .neq 203 (.c (.f f c)) (.c .nilf) = some (.c (.b true)) := by kernel_rfl
theorem neq2T203 : abin Tryz.prog .neq 203 (.c .nilf) (.c .nilf) = some (.c (.b false)) := by kernel_rfl
theorem dT205 : dT Tryz.prog 205 = .other := by kernel_rfl
theorem sT205 : szT Tryz.prog 205 = 1 := by kernel_rfl
theorem bT205 : byT Tryz.prog 205 = 8 := by kernel_rfl
theorem zT205 : zT Tryz.prog 205 = some [.nilf] := by kernel_rfl
theorem eql1T205 {f : Nat} {c : List (Nat × Nat × Nat)}  : abin Tryz.prog .eql 205 (.c (.f f c)) (.c .nilf) = some (.c (.b false)) := by kernel_rfl
theorem eql2T205 : abin Tryz.prog .eql 205 (.c .nilf) (.c .nilf) = some (.c (.b true)) := by kernel_rfl
theorem neq1T205 {f : Nat} {c : List (Nat × Nat × Nat)}  : abin Tryz.prog .neq 205 (.c (.f f c)) (.c .nilf) = some (.c (.b true)) := by kernel_rfl
theorem neq2T205 : abin Tryz.prog .neq 205 (.c .nilf) (.c .nilf) = some (.c (.b false)) := by kernel_rfl
theorem dT206 : dT Tryz.prog 206 = .other := by kernel_rfl
theorem sT206 : szT Tryz.prog 206 = 1 := by kernel_rfl
theorem bT206 : byT Tryz.prog 206 = 8 := by kernel_rfl
theorem zT206 : zT Tryz.prog 206 = some [.nilf] := by kernel_rfl
theorem eql1T206 {f : Nat} {c : List (Nat × Nat × Nat)}  : abin Tryz.prog .eql 206 (.c (.f f c)) (.c .nilf) = some (.c (.b false)) := by kernel_rfl
theorem eql2T206 : abin Tryz.prog .eql 206 (.c .nilf) (.c .nilf) = some (.c (.b true)) := by kernel_rfl
theorem neq1T206 {f : Nat} {c : List (Nat × Nat × Nat)}  : abin Tryz.prog .neq 206 (.c (.f f c)) (.c .nilf) = some (.c (.b true)) := by kernel_rfl
theorem neq2T206 : abin Tryz.prog .neq 206 (.c .nilf) (.c .nilf) = some (.c (.b false)) := by kernel_rfl
theorem dT207 : dT Tryz.prog 207 = .other := by kernel_rfl
theorem sT207 : szT Tryz.prog 207 = 1 := by kernel_rfl
theorem bT207 : byT Tryz.prog 207 = 8 := by kernel_rfl
theorem zT207 : zT Tryz.prog 207 = some [.nilf] := by kernel_rfl
theorem eql1T207 {f : Nat} {c : List (Nat × Nat × Nat)}  : abin Tryz.prog .eql 207 (.c (.f f c)) (.c .nilf) = some (.c (.b false)) := by kernel_rfl
theorem eql2T207 : abin Tryz.prog .eql 207 (.c .nilf) (.c .nilf) = some (.c (.b true)) := by kernel_rfl
theorem neq1T207 {f : Nat} {c : List (Nat × Nat × Nat)}  : abin Tryz.prog .neq 207 (.c (.f f c)) (.c .nilf) = some (.c (.b true)) := by kernel_rfl
theorem neq2T207 : abin Tryz.prog .neq 207 (.c .nilf) (.c .nilf) = some (.c (.b false)) := by kernel_rfl
theorem dT208 : dT Tryz.prog 208 = .other := by kernel_rfl
theorem sT208 : szT Tryz.prog 208 = 1 := by kernel_rfl
theorem bT208 : byT Tryz.prog 208 = 8 := by kernel_rfl
theorem zT208 : zT Tryz.prog 208 = some [.nilf] := by kernel_rfl
theorem eql1T208 {f : Nat} {c : List (Nat × Nat × Nat)}  : abin Tryz.prog .eql 208 (.c (.f f c)) (.c .nilf) = some (.c (.b false)) := by kernel_rfl
theorem eql2T208 : abin Tryz.prog .eql 208 (.c .nilf) (.c .nilf) = some (.c (.b true)) := by kernel_rfl
theorem neq1T208 {f : Nat} {c : List (Nat × Nat × Nat)}  : abin Tryz.prog .neq 208 (.c (.f f c)) (.c .nilf) = some (.c (.b true)) := by kernel_rfl
theorem neq2T208 : abin Tryz.prog .neq 208 (.c .nilf) (.c .nilf) = some (.c (.b false)) := by kernel_rfl
theorem dT209 : dT Tryz.prog 209 = .other := by kernel_rfl
theorem sT209 : szT Tryz.prog 209 = 1 := by kernel_rfl
theorem bT209 : byT Tryz.prog 209 = 8 := by kernel_rfl
theorem zT209 : zT Tryz.prog 209 = some [.nilf] := by kernel_rfl
theorem eql1T209 {f : Nat} {c : List (Nat × Nat × Nat)}  : abin Tryz.prog .eql 209 (.c (.f f c)) (.c .nilf) = some (.c (.b false)) := by kernel_rfl
theorem eql2T209 : abin Tryz.prog .eql 209 (.c .nilf) (.c .nilf) = some (.c (.b true)) := by kernel_rfl
theorem neq1T209 {f : Nat} {c : List (Nat × Nat × Nat)}  : abin Tryz.prog .neq 209 (.c (.f f c)) (.c .nilf) = some (.c (.b true)) := by kernel_rfl
theorem neq2T209 : abin Tryz.prog .neq 209 (.c .nilf) (.c .nilf) = some (.c (.b false)) := by kernel_rfl
theorem dT211 : dT Tryz.prog 211 = .other := by kernel_rfl
theorem sT211 : szT Tryz.prog 211 = 1 := by kernel_rfl
theorem bT211 : byT Tryz.prog 211 = 8 := by kernel_rfl
theorem zT211 : zT Tryz.prog 211 = some [.nilf] := by kernel_rfl
theorem eql1T211 {f : Nat} {c : List (Nat × Nat × Nat)}  : abin Tryz.prog .eql 211 (.c (.f f c)) (.c .nilf) = some (.c (.b false)) := by kernel_rfl
theorem eql2T211 : abin Tryz.prog .eql 211 (.c .nilf) (.c .nilf) = some (.c (.b true)) := by kernel_rfl
theorem neq1T211 {f : Nat} {c : List (Nat × Nat × Nat)}  : abin Tryz.prog .neq 211 (.c (.f f c)) (.c .nilf) = some (.c (.b true)) := by kernel_rfl
theorem neq2T211 : abin Tryz.prog .neq 211 (.c .nilf) (.c .nilf) = some (.c (.b false)) := by kernel_rfl
theorem dT212 : dT Tryz.prog 212 = .ptr 22 := by kernel_rfl
theorem sT212 : szT Tryz.prog 212 = 1 := by kernel_rfl
theorem bT212 : byT Tryz.prog 212 = 8 := by kernel_rfl
theorem zT212 : zT Tryz.prog 212 = some [.nilp] := by kernel_rfl
theorem eql1T212 {a b c : Nat}  : abin Tryz.prog .eql 212 (.c (.p a b c)) (.c .nilp) = some (.c (.b false)) := by kernel_rfl
theorem eql2T212 : abin Tryz.prog .eql 212 (.c .nilp) (.c .nilp) = some (.c (.b true)) := by kernel_rfl
theorem neq1T212 {a b c : Nat}  : abin Tryz.prog .neq 212 (.c (.p a b c)) (.c .nilp) = some (.c (.b true)) := by kernel_rfl
theorem neq2T212 : abin Tryz.prog .neq 212 (.c .nilp) (.c .nilp) = some (.c (.b false)) := by kernel_rfl
theorem dT213 : dT Tryz.prog 213 = .st [(0, 3), (1, 212), (2, 124)] := by kernel_rfl
theorem sT213 : szT Tryz.prog 213 = 3 := by kernel_rfl
theorem bT213 : byT Tryz.prog 213 = 24 := by kernel_rfl
theorem zT213 : zT Tryz.prog 213 = some [.i 0, .nilp, .u 0#64] := by kernel_rfl
theorem dT214 : dT Tryz.prog 214 = .st [(0, 3), (1, 212), (2, 124)] := by kernel_rfl
theorem sT214 : szT Tryz.prog 214 = 3 := by kernel_rfl
theorem bT214 : byT Tryz.prog 214 = 24 := by kernel_rfl
theorem zT214 : zT Tryz.prog 214 = some [.i 0, .nilp, .u 0#64] := by kernel_rfl
theorem dT216 : dT Tryz.prog 216 = .other := by kernel_rfl
theorem sT216 : szT Tryz.prog 216 = 1 := by kernel_rfl
theorem bT216 : byT Tryz.prog 216 = 8 := by kernel_rfl
theorem zT216 : zT Tryz.prog 216 = some [.nilf] := by kernel_rfl
theorem eql1T216 {f : Nat} {c : List (Nat × Nat × Nat)}  : abin Tryz.prog .eql 216 (.c (.f f c)) (.c .nilf) = some (.c (.b false)) := by kernel_rfl
theorem eql2T216 : abin Tryz.prog .eql 216 (.c .nilf) (.c .nilf) = some (.c (.b true)) := by kernel_rfl
theorem neq1T216 {f : Nat} {c : List (Nat × Nat × Nat)}  : abin Tryz.prog .neq 216 (.c (.f f c)) (.c .nilf) = some (.c (.b true)) := by kernel_rfl
theorem neq2T216 : abin Tryz.prog .neq 216 (.c .nilf) (.c .nilf) = some (.c (.b false)) := by kernel_rfl
theorem dT217 : dT Tryz.prog 217 = .int .i64 := by kernel_rfl
theorem sT217 : szT Tryz.prog 217 = 1 := by kernel_rfl
theorem bT217 : byT Tryz.prog 217 = 8 := by kernel_rfl
theorem zT217 : zT Tryz.prog 217 = some [.i 0] := by kernel_rfl
theorem dT219 : dT Tryz.prog 219 = .other := by kernel_rfl
theorem sT219 : szT Tryz.prog 219 = 1 := by kernel_rfl
theorem bT219 : byT Tryz.prog 219 = 8 := by kernel_rfl
theorem zT219 : zT Tryz.prog 219 = some [.nilf] := by kernel_rfl
theorem eql1T219 {f : Nat} {c : List (Nat × Nat × Nat)}  : abin Tryz.prog .eql 219 (.c (.f f c)) (.c .nilf) = some (.c (.b false)) := by kernel_rfl
theorem eql2T219 : abin Tryz.prog .eql 219 (.c .nilf) (.c .nilf) = some (.c (.b true)) := by kernel_rfl
theorem neq1T219 {f : Nat} {c : List (Nat × Nat × Nat)}  : abin Tryz.prog .neq 219 (.c (.f f c)) (.c .nilf) = some (.c (.b true)) := by kernel_rfl
theorem neq2T219 : abin Tryz.prog .neq 219 (.c .nilf) (.c .nilf) = some (.c (.b false)) := by kernel_rfl
theorem dT220 : dT Tryz.prog 220 = .other := by kernel_rfl
theorem sT220 : szT Tryz.prog 220 = 1 := by kernel_rfl
theorem bT220 : byT Tryz.prog 220 = 8 := by kernel_rfl
theorem zT220 : zT Tryz.prog 220 = some [.nilf] := by kernel_rfl
theorem eql1T220 {f : Nat} {c : List (Nat × Nat × Nat)}  : abin Tryz.prog .eql 220 (.c (.f f c)) (.c .nilf) = some (.c (.b false)) := by kernel_rfl
theorem eql2T220 : abin Tryz.prog .eql 220 (.c .nilf) (.c .nilf) = some (.c (.b true)) := by kernel_rfl
theorem neq1T220 {f : Nat} {c : List (Nat × Nat × Nat)}  : abin Tryz.prog .neq 220 (.c (.f f c)) (.c .nilf) = some (.c (.b true)) := by kernel_rfl
theorem neq2T220 : abin Tryz.prog .neq 220 (.c .nilf) (.c .nilf) = some (.c (.b false)) := by kernel_rfl
theorem dT221 : dT Tryz.prog 221 = .other := by kernel_rfl
theorem sT221 : szT Tryz.prog 221 = 1 := by kernel_rfl
theorem bT221 : byT Tryz.prog 221 = 8 := by kernel_rfl
theorem zT221 : zT Tryz.prog 221 = some [.nilf] := by kernel_rfl
theorem eql1T221 {f : Nat} {c : List (Nat × Nat × Nat)}  : abin Tryz.prog .eql 221 (.c (.f f c)) (.c .nilf) = some (.c (.b false)) := by kernel_rfl
theorem eql2T221 : abin Tryz.prog .eql 221 (.c .nilf) (.c .nilf) = some (.c (.b true)) := by kernel_rfl
theorem neq1T221 {f : Nat} {c : List (Nat × Nat × Nat)}  : abin Tryz.prog .neq 221 (.c (.f f c)) (.c .nilf) = some (.c (.b true)) := by kernel_rfl
theorem neq2T221 : abin Tryz.prog .neq 221 (.c .nilf) (.c .nilf) = some (.c (.b false)) := by kernel_rfl
theorem dT222 : dT Tryz.prog 222 = .arr 3 4 := by kernel_rfl
theorem sT222 : szT Tryz.prog 222 = 3 := by kernel_rfl
theorem bT222 : byT Tryz.prog 222 = 3 := by kernel_rfl
theorem zT222 : zT Tryz.prog 222 = some [.b false, .b false, .b false] := by kernel_rfl
theorem gT222 : tagsT Tryz.prog 12 222 = some [.q, .q, .q] := by kernel_rfl
theorem eqT222 {a b : List Sc} : abin Tryz.prog .eql 222 (.g a) (.g b) = (csEq [.q, .q, .q] a b).bind (eqU .eql) := ab_g_eql _ (by simp only [dT222, D.agg]) gT222
theorem neT222 {a b : List Sc} : abin Tryz.prog .neq 222 (.g a) (.g b) = (csEq [.q, .q, .q] a b).bind (eqU .neq) := ab_g_neq _ (by simp only [dT222, D.agg]) gT222
theorem dT223 : dT Tryz.prog 223 = .other := by kernel_rfl
theorem sT223 : szT Tryz.prog 223 = 1 := by kernel_rfl
theorem bT223 : byT Tryz.prog 223 = 8 := by kernel_rfl
theorem zT223 : zT Tryz.prog 223 = some [.nilf] := by kernel_rfl
theorem eql1T223 {f : Nat} {c : List (Nat × Nat × Nat)}  : abin Tryz.prog .eql 223 (.c (.f f c)) (.c .nilf) = some (.c (.b false)) := by kernel_rfl
theorem eql2T223 : abin Tryz.prog .eql 223 (.c .nilf) (.c .nilf) = some (.c (.b true)) := by kernel_rfl
theorem neq1T223 {f : Nat} {c : List (Nat × Nat × Nat)}  : abin Tryz.prog .neq 223 (.c (.f f c)) (.c .nilf) = some (.c (.b true)) := by kernel_rfl
theorem neq2T223 : abin Tryz.prog .neq 223 (.c .nilf) (.c .nilf) = some (.c (.b false)) := by kernel_rfl
theorem dT224 : dT Tryz.prog 224 = .other := by kernel_rfl
theorem sT224 : szT Tryz.prog 224 = 1 := by kernel_rfl
theorem bT224 : byT Tryz.prog 224 = 8 := by kernel_rfl
theorem zT224 : zT Tryz.prog 224 = some [.nilf] := by kernel_rfl
theorem eql1T224 {f : Nat} {c : List (Nat × Nat × Nat)}  : abin Tryz.prog .eql 224 (.c (.f f c)) (.c .nilf) = some (.c (.b false)) := by kernel_rfl
theorem eql2T224 : abin Tryz.prog .eql 224 (.c .nilf) (.c .nilf) = some (.c (.b true)) := by kernel_rfl
theorem neq1T224 {f : Nat} {c : List (Nat × Nat × Nat)}  : abin Tryz.prog .neq 224 (.c (.f f c)) (.c .nilf) = some (.c (.b true)) := by kernel_rfl
theorem neq2T224 : abin Tryz.prog .neq 224 (.c .nilf) (.c .nilf) = some (.c (.b false)) := by kernel_rfl
theorem dT225 : dT Tryz.prog 225 = .other := by kernel_rfl
theorem sT225 : szT Tryz.prog 225 = 1 := by kernel_rfl
theorem bT225 : byT Tryz.prog 225 = 8 := by kernel_rfl
theorem zT225 : zT Tryz.prog 225 = some [.nilf] := by kernel_rfl
theorem eql1T225 {f : Nat} {c : List (Nat × Nat × Nat)}  : abin Tryz.prog .eql 225 (.c (.f f c)) (.c .nilf) = some (.c (.b false)) := by kernel_rfl
theorem eql2T225 : abin Tryz.prog .eql 225 (.c .nilf) (.c .nilf) = some (.c (.b true)) := by kernel_rfl
theorem neq1T225 {f : Nat} {c : List (Nat × Nat × Nat)}  : abin Tryz.prog .neq 225 (.c (.f f c)) (.c .nilf) = some (.c (.b true)) := by kernel_rfl
theorem neq2T225 : abin Tryz.prog .neq 225 (.c .nilf) (.c .nilf) = some (.c (.b false)) := by kernel_rfl
theorem dT226 : dT Tryz.prog 226 = .other := by kernel_rfl
theorem sT226 : szT Tryz.prog 226 = 1 := by kernel_rfl
theorem bT226 : byT Tryz.prog 226 = 8 := by kernel_rfl
theorem zT226 : zT Tryz.prog 226 = some [.nilf] := by kernel_rfl
theorem eql1T226 {f : Nat} {c : List (Nat × Nat × Nat)}  : abin Tryz.prog .eql 226 (.c (.f f c)) (.c .nilf) = some (.c (.b false)) := by kernel_rfl
theorem eql2T226 : abin Tryz.prog .eql 226 (.c .nilf) (.c .nilf) = some (.c (.b true)) := by kernel_rfl
theorem neq1T226 {f : Nat} {c : List (Nat × Nat × Nat)}  : abin Tryz.prog .neq 226 (.c (.f f c)) (.c .nilf) = some (.c (.b true)) := by kernel_rfl
theorem neq2T226 : abin Tryz.prog .neq 226 (.c .nilf) (.c .nilf) = some (.c (.b false)) := by kernel_rfl
theorem dT227 : dT Tryz.prog 227 = .other := by kernel_rfl
theorem sT227 : szT Tryz.prog 227 = 1 := by kernel_rfl
theorem bT227 : byT Tryz.prog 227 = 8 := by kernel_rfl
theorem zT227 : zT Tryz.prog 227 = some [.nilf] := by kernel_rfl
theorem eql1T227 {f : Nat} {c : List (Nat × Nat × Nat)}  : abin Tryz.prog .eql 227 (.c (.f f c)) (.c .nilf) = some (.c (.b false)) := by kernel_rfl
theorem eql2T227 : abin Tryz.prog .eql 227 (.c .nilf) (.c .nilf) = some (.c (.b true)) := by kernel_rfl
theorem neq1T227 {f : Nat} {c : List (Nat × Nat × Nat)}  : abin Tryz.prog .neq 227 (.c (.f f c)) (.c .nilf) = some (.c (.b true)) := by kernel_rfl
theorem neq2T227 : abin Tryz.prog .neq 227 (.c .nilf) (.c .nilf) = some (.c (.b false)) := by kernel_rfl
theorem dT228 : dT Tryz.prog 228 = .other := by kernel_rfl
theorem sT228 : szT Tryz.prog 228 = 1 := by kernel_rfl
theorem bT228 : byT Tryz.prog 228 = 8 := by kernel_rfl
theorem zT228 : zT Tryz.prog 228 = some [.nilf] := by kernel_rfl
theorem eql1T228 {f : Nat} {c : List (Nat × Nat × Nat)}  : abin Tryz.prog .eql 228 (.c (.f f c)) (.c .nilf) = some (.c (.b false)) := by kernel_rfl
theorem eql2T228 : abin Tryz.prog .eql 228 (.c .nilf) (.c .nilf) = some (.c (.b true)) := by kernel_rfl
theorem neq1T228 {f : Nat} {c : List (Nat × Nat × Nat)}  : abin Tryz.prog .neq 228 (.c (.f f c)) (.c .nilf) = some (.c (.b true)) := by kernel_rfl
theorem neq2T228 : abin Tryz.prog .neq 228 (.c .nilf) (.c .nilf) = some (.c (.b false)) := by kernel_rfl
theorem dT229 : dT Tryz.prog 229 = .other := by kernel_rfl
theorem sT229 : szT Tryz.prog 229 = 1 := by kernel_rfl
theorem bT229 : byT Tryz.prog 229 = 8 := by kernel_rfl
theorem zT229 : zT Tryz.prog 229 = some [.nilf] := by kernel_rfl
theorem eql1T229 {f : Nat} {c : List (Nat × Nat × Nat)}  : abin Tryz.prog .eql 229 (.c (.f f c)) (.c .nilf) = some (.c (.b false)) := by kernel_rfl
theorem eql2T229 : abin Tryz.prog .eql 229 (.c .nilf) (.c .nilf) = some (.c (.b true)) := by kernel_rfl
theorem neq1T229 {f : Nat} {c : List (Nat × Nat × Nat)}  : abin Tryz.prog .neq 229 (.c (.f f c)) (.c .nilf) = some (.c (.b true)) := by kernel_rfl
theorem neq2T229 : abin Tryz.prog .neq 229 (.c .nilf) (.c .nilf) = some (.c (.b false)) := by kernel_rfl
theorem dT230 : dT Tryz.prog 230 = .other := by kernel_rfl
theorem sT230 : szT Tryz.prog 230 = 1 := by kernel_rfl
theorem bT230 : byT Tryz.prog 230 = 8 := by kernel_rfl
theorem zT230 : zT Tryz.prog 230 = some [.nilf] := by kernel_rfl
theorem eql1T230 {f : Nat} {c : List (Nat × Nat × Nat)}  : abin Tryz.prog .eql 230 (.c (.f f c)) (.c .nilf) = some (.c (.b false)) := by kernel_rfl
theorem eql2T230 : abin Tryz.prog .eql 230 (.c .nilf) (.c .nilf) = some (.c (.b true)) := by kernel_rfl
theorem neq1T230 {f : Nat} {c : List (Nat × Nat × Nat)}  : abin Tryz.prog .neq 230 (.c (.f f c)) (.c .nilf) = some (.c (.b true)) := by kernel_rfl
theorem neq2T230 : abin Tryz.prog .neq 230 (.c .nilf) (.c .nilf) = some (.c (.b false)) := by kernel_rfl
theorem dT231 : dT Tryz.prog 231 = .int .i64 := by kernel_rfl
theorem sT231 : szT Tryz.prog 231 = 1 := by kernel_rfl
theorem bT231 : byT Tryz.prog 231 = 8 := by kernel_rfl
theorem zT231 : zT Tryz.prog 231 = some [.i 0] := by kernel_rfl
theorem dT233 : dT Tryz.prog 233 = .other := by kernel_rfl
theorem sT233 : szT Tryz.prog 233 = 1 := by kernel_rfl
theorem bT233 : byT Tryz.prog 233 = 8 := by kernel_rfl
theorem zT233 : zT Tryz.prog 233 = some [.nilf] := by kernel_rfl
theorem eql1T233 {f : Nat} {c : List (Nat × Nat × Nat)}  : abin Tryz.prog .eql 233 (.c (.f f c)) (.c .nilf) = some (.c (.b false)) := by kernel_rfl
theorem eql2T233 : abin Tryz.prog .eql 233 (.c .nilf) (.c .nilf) = some (.c (.b true)) := by kernel_rfl
theorem neq1T233 {f : Nat} {c : List (Nat × Nat × Nat)}  : abin Tryz.prog .neq 233 (.c (.f f c)) (.c .nilf) = some (.c (.b true)) := by kernel_rfl
theorem neq2T233 : abin Tryz.prog .neq 233 (.c .nilf) (.c .nilf) = some (.c (.b false)) := by kernel_rfl
theorem dT234 : dT Tryz.prog 234 = .other := by kernel_rfl
theorem sT234 : szT Tryz.prog 234 = 1 := by kernel_rfl
theorem bT234 : byT Tryz.prog 234 = 8 := by kernel_rfl
theorem zT234 : zT Tryz.prog 234 = some [.nilf] := by kernel_rfl
theorem eql1T234 {f : Nat} {c : List (Nat × Nat × Nat)}  : abin Tryz.prog .eql 234 (.c (.f f c)) (.c .nilf) = some (.c (.b false)) := by kernel_rfl
theorem eql2T234 : abin Tryz.prog .eql 234 (.c .nilf) (.c .nilf) = some (.c (.b true)) := by kernel_rfl
theorem neq1T234 {f : Nat} {c : List (Nat × Nat × Nat)}  : abin Tryz.prog .neq 234 (.c (.f f c)) (.c .nilf) = some (.c (.b true)) := by kernel_rfl
theorem neq2T234 : abin Tryz.prog .neq 234 (.c .nilf) (.c .nilf) = some (.c (.b false)) := by kernel_rfl
theorem dT235 : dT Tryz.prog 235 = .other := by kernel_rfl
theorem sT235 : szT Tryz.prog 235 = 1 := by kernel_rfl
theorem bT235 : byT Tryz.prog 235 = 8 := by kernel_rfl
theorem zT235 : zT Tryz.prog 235 = some [.nilf] := by kernel_rfl
theorem eql1T235 {f : Nat} {c : List (Nat × Nat × Nat)}  : abin Tryz.prog .eql 235 (.c (.f f c)) (.c .nilf) = some (.c (.b false)) := by kernel_rfl
theorem eql2T235 : abin Tryz.prog .eql 235 (.c .nilf) (.c .nilf) = some (.c (.b true)) := by kernel_rfl
theorem neq1T235 {f : Nat} {c : List (Nat × Nat × Nat)}  : abin Tryz.prog .neq 235 (.c (.f f c)) (.c .nilf) = some (.c (.b true)) := by kernel_rfl
theorem neq2T235 : abin Tryz.prog .neq 235 (.c .nilf) (.c .nilf) = some (.c (.b false)) := by kernel_rfl
theorem dT236 : dT Tryz.prog 236 = .other := by kernel_rfl
theorem sT236 : szT Tryz.prog 236 = 1 := by kernel_rfl
theorem bT236 : byT Tryz.prog 236 = 8 := by kernel_rfl
theorem zT236 : zT Tryz.prog 236 = some [.nilf] := by kernel_rfl
theorem eql1T236 {f : Nat} {c : List (Nat × Nat × Nat)}  : abin Tryz.prog .eql 236 (.c (.f f c)) (.c .nilf) = some (.c (.b false)) := by kernel_rfl
theorem eql2T236 : abin Tryz.prog .eql 236 (.c .nilf) (.c .nilf) = some (.c (.b true)) := by kernel_rfl
theorem neq1T236 {f : Nat} {c : List (Nat × Nat × Nat)}  : abin Tryz.prog .neq 236 (.c (.f f c)) (.c .nilf) = some (.c (.b true)) := by kernel_rfl
theorem neq2T236 : abin Tryz.prog .neq 236 (.c .nilf) (.c .nilf) = some (.c (.b false)) := by kernel_rfl
theorem dT237 : dT Tryz.prog 237 = .other := by kernel_rfl
theorem sT237 : szT Tryz.prog 237 = 1 := by kernel_rfl
theorem bT237 : byT Tryz.prog 237 = 8 := by kernel_rfl
theorem zT237 : zT Tryz.prog 237 = some [.nilf] := by kernel_rfl
theorem eql1T237 {f : Nat} {c : List (Nat × Nat × Nat)}  : abin Tryz.prog .eql 237 (.c (.f f c)) (.c .nilf) = some (.c (.b false)) := by kernel_rfl
theorem eql2T237 : abin Tryz.prog .eql 237 (.c .nilf) (.c .nilf) = some (.c (.b true)) := by kernel_rfl
theorem neq1T237 {f : Nat} {c : List (Nat × Nat × Nat)}  : abin Tryz.prog .neq 237 (.c (.f f c)) (.c .nilf) = some (.c (.b true)) := by kernel_rfl
theorem neq2T237 : abin Tryz.prog .neq 237 (.c .nilf) (.c .nilf) = some (.c (.b false)) := by kernel_rfl
theorem dT238 : dT Tryz.prog 238 = .other := by kernel_rfl
theorem sT238 : szT Tryz.prog 238 = 1 := by kernel_rfl
theorem bT238 : byT Tryz.prog 238 = 8 := by kernel_rfl
theorem zT238 : zT Tryz.prog 238 = some [.nilf] := by kernel_rfl
theorem eql1T238 {f : Nat} {c : List (Nat × Nat × Nat)}  : abin Tryz.prog .eql 238 (.c (.f f c)) (.c .nilf) = some (.c (.b false)) := by kernel_rfl
theorem eql2T238 : abin Tryz.prog .eql 238 (.c .nilf) (.c .nilf) = some (.c (.b true)) := by kernel_rfl
theorem neq1T238 {f : Nat} {c : List (Nat × Nat × Nat)}  : abin Tryz.prog .neq 238 (.c (.f f c)) (.c .nilf) = some (.c (.b true)) := by kernel_rfl
theorem neq2T238 : abin Tryz.prog .neq 238 (.c .nilf) (.c .nilf) = some (.c (.b false)) := by kernel_rfl
theorem dT239 : dT Tryz.prog 239 = .other := by kernel_rfl
theorem sT239 : szT Tryz.prog 239 = 1 := by kernel_rfl
theorem bT239 : byT Tryz.prog 239 = 8 := by kernel_rfl
theorem zT239 : zT Tryz.prog 239 = some [.nilf] := by kernel_rfl
theorem eql1T239 {f : Nat} {c : List (Nat × Nat × Nat)}  : abin Tryz.prog .eql 239 (.c (.f f c)) (.c .nilf) = some (.c (.b false)) := by kernel_rfl
theorem eql2T239 : abin Tryz.prog .eql 239 (.c .nilf) (.c .nilf) = some (.c (.b true)) := by kernel_rfl
theorem neq1T239 {f : Nat} {c : List (Nat × Nat × Nat)}  : abin Tryz.prog .neq 239 (.c (.f f c)) (.c .nilf) = some (.c (.b true)) := by kernel_rfl
theorem neq2T239 : abin Tryz.prog .neq 239 (.c .nilf) (.c .nilf) = some (.c (.b false)) := by kernel_rfl
theorem dT240 : dT Tryz.prog 240 = .int .u64 := by kernel_rfl
theorem sT240 : szT Tryz.prog 240 = 1 := by kernel_rfl
theorem bT240 : byT Tryz.prog 240 = 8 := by kernel_rfl
theorem zT240 : zT Tryz.prog 240 = some [.u 0#64] := by kernel_rfl
theorem dT241 : dT Tryz.prog 241 = .other := by kernel_rfl
theorem sT241 : szT Tryz.prog 241 = 1 := by kernel_rfl
theorem bT241 : byT Tryz.prog 241 = 8 := by kernel_rfl
theorem zT241 : zT Tryz.prog 241 = some [.nilf] := by kernel_rfl
theorem eql1T241 {f : Nat} {c : List (Nat × Nat × Nat)}  : abin Tryz.prog .eql 241 (.c (.f f c)) (.c .nilf) = some (.c (.b false)) := by kernel_rfl
theorem eql2T241 : abin Tryz.prog .eql 241 (.c .nilf) (.c .nilf) = some (.c (.b true)) := by kernel_rfl
theorem neq1T241 {f : Nat} {c : List (Nat × Nat × Nat)}  : abin Tryz.prog .neq 241 (.c (.f f c)) (.c .nilf) = some (.c (.b true)) := by kernel_rfl
theorem neq2T241 : abin Tryz.prog .neq 241 (.c .nilf) (.c .nilf) = some (.c (.b false)) := by kernel_rfl
theorem dT242 : dT Tryz.prog 242 = .other := by kernel_rfl
theorem sT242 : szT Tryz.prog 242 = 1 := by kernel_rfl
theorem bT242 : byT Tryz.prog 242 = 8 := by kernel_rfl
theorem zT242 : zT Tryz.prog 242 = some [.nilf] := by kernel_rfl
theorem eql1T242 {f : Nat} {c : List (Nat × Nat × Nat)}  : abin Tryz.prog .eql 242 (.c (.f f c)) (.c .nilf) = some (.c (.b false)) := by kernel_rfl
theorem eql2T242 : abin Tryz.prog .eql 242 (.c .nilf) (.c .nilf) = some (.c (.b true)) := by kernel_rfl
theorem neq1T242 {f : Nat} {c : List (Nat × Nat × Nat)}  : abin Tryz.prog .neq 242 (.c (.f f c)) (.c .nilf) = some (.c (.b true)) := by kernel_rfl
theorem neq2T242 : abin Tryz.prog .neq 242 (.c .nilf) (.c .nilf) = some (.c (.b false)) := by kernel_rfl
theorem dT243 : dT Tryz.prog 243 = .other := by kernel_rfl
theorem sT243 : szT Tryz.prog 243 = 1 := by kernel_rfl
theorem bT243 : byT Tryz.prog 243 = 8 := by kernel_rfl
theorem zT243 : zT Tryz.prog 243 = some [.nilf] := by kernel_rfl
theorem eql1T243 {f : Nat} {c : List (Nat × Nat × Nat)}  : abin Tryz.prog .eql 243 (.c (.f f c)) (.c .nilf) = some (.c (.b false)) := by kernel_rfl
theorem eql2T243 : abin Tryz.prog .eql 243 (.c .nilf) (.c .nilf) = some (.c (.b true)) := by kernel_rfl
theorem neq1T243 {f : Nat} {c : List (Nat × Nat × Nat)}  : abin Tryz.prog .neq 243 (.c (.f f c)) (.c .nilf) = some (.c (.b true)) := by kernel_rfl
theorem neq2T243 : abin Tryz.prog .neq 243 (.c .nilf) (.c .nilf) = some (.c (.b false)) := by kernel_rfl
theorem dT244 : dT Tryz.prog 244 = .ptr 3 := by kernel_rfl
theorem sT244 : szT Tryz.prog 244 = 1 := by kernel_rfl
theorem bT244 : byT Tryz.prog 244 = 8 := by kernel_rfl
theorem zT244 : zT Tryz.prog 244 = some [.nilp] := by kernel_rfl
theorem eql1T244 {a b c : Nat}  : abin Tryz.prog .eql 244 (.c (.p a b c)) (.c .nilp) = some (.c (.b false)) := by kernel_rfl
theorem eql2T244 : abin Tryz.prog .eql 244 (.c .nilp) (.c .nilp) = some (.c (.b true)) := by kernel_rfl
theorem neq1T244 {a b c : Nat}  : abin Tryz.prog .neq 244 (.c (.p a b c)) (.c .nilp) = some (.c (.b true)) := by kernel_rfl
theorem neq2T244 : abin Tryz.prog .neq 244 (.c .nilp) (.c .nilp) = some (.c (.b false)) := by kernel_rfl
theorem dT245 : dT Tryz.prog 245 = .other := by kernel_rfl
theorem sT245 : szT Tryz.prog 245 = 1 := by kernel_rfl
theorem bT245 : byT Tryz.prog 245 = 8 := by kernel_rfl
theorem zT245 : zT Tryz.prog 245 = some [.nilf] := by kernel_rfl
theorem eql1T245 {f : Nat} {c : List (Nat × Nat × Nat)}  : abin Tryz.prog .eql 245 (.c (.f f c)) (.c .nilf) = some (.c (.b false)) := by kernel_rfl
theorem eql2T245 : abin Tryz.prog .eql 245 (.c .nilf) (.c .nilf) = some (.c (.b true)) := by kernel_rfl
theorem neq1T245 {f : Nat} {c : List (Nat × Nat × Nat)}  : abin Tryz.prog .neq 245 (.c (.f f c)) (.c .nilf) = some (.c (.b true)) := by kernel_rfl
theorem neq2T245 : abin Tryz.prog .neq 245 (.c .nilf) (.c .nilf) = some (.c (.b false)) := by kernel_rfl
theorem dT246 : dT Tryz.prog 246 = .other := by kernel_rfl
theorem sT246 : szT Tryz.prog 246 = 1 := by kernel_rfl
theorem bT246 : byT Tryz.prog 246 = 8 := by kernel_rfl
theorem zT246 : zT Tryz.prog 246 = some [.nilf] := by kernel_rfl
theorem eql1T246 {f : Nat} {c : List (Nat × Nat × Nat)}  : abin Tryz.prog .eql 246 (.c (.f f c)) (.c .nilf) = some (.c (.b false)) := by kernel_rfl
theorem eql2T246 : abin Tryz.prog .eql 246 (.c .nilf) (.c .nilf) = some (.c (.b true)) := by kernel_rfl
theorem neq1T246 {f : Nat} {c : List (Nat × Nat × Nat)}  : abin Tryz.prog .neq 246 (.c (.f f c)) (.c .nilf) = some (.c (.b true)) := by kernel_rfl
theorem neq2T246 : abin Tryz.prog .neq 246 (.c .nilf) (.c .nilf) = some (.c (.b false)) := by kernel_rfl
theorem dT247 : dT Tryz.prog 247 = .ptr 240 := by kernel_rfl
theorem sT247 : szT Tryz.prog 247 = 1 := by kernel_rfl
theorem bT247 : byT Tryz.prog 247 = 8 := by kernel_rfl
theorem zT247 : zT Tryz.prog 247 = some [.nilp] := by kernel_rfl
theorem eql1T247 {a b c : Nat}  : abin Tryz.prog .eql 247 (.c (.p a b c)) (.c .nilp) = some (.c (.b false)) := by kernel_rfl
theorem eql2T247 : abin Tryz.prog .eql 247 (.c .nilp) (.c .nilp) = some (.c (.b true)) := by kernel_rfl
theorem neq1T247 {a b c : Nat}  : abin Tryz.prog .neq 247 (.c (.p a b c)) (.c .nilp) = some (.c (.b true)) := by kernel_rfl
theorem neq2T247 : abin Tryz.prog .neq 247 (.c .nilp) (.c .nilp) = some (.c (.b false)) := by kernel_rfl
theorem dT248 : dT Tryz.prog 248 = .other := by kernel_rfl
theorem sT248 : szT Tryz.prog 248 = 1 := by kernel_rfl
theorem bT248 : byT Tryz.prog 248 = 8 := by kernel_rfl
theorem zT248 : zT Tryz.prog 248 = some [.nilf] := by kernel_rfl
theorem eql1T248 {f : Nat} {c : List (Nat × Nat × Nat)}  : abin Tryz.prog .eql 248 (.c (.f f c)) (.c .nilf) = some (.c (.b false)) := by kernel_rfl
theorem eql2T248 : abin Tryz.prog .eql 248 (.c .nilf) (.c .nilf) = some (.c (.b true)) := by kernel_rfl
theorem neq1T248 {f : Nat} {c : List (Nat × Nat × Nat)}  : abin Tryz.prog .neq 248 (.c (.f f c)) (.c .nilf) = some (.c (.b true)) := by kernel_rfl
theorem neq2T248 : abin Tryz.prog .neq 248 (.c .nilf) (.c .nilf) = some (.c (.b false)) := by kernel_rfl
theorem dT249 : dT Tryz.prog 249 = .other := by kernel_rfl
theorem sT249 : szT Tryz.prog 249 = 1 := by kernel_rfl
theorem bT249 : byT Tryz.prog 249 = 8 := by kernel_rfl
theorem zT249 : zT Tryz.prog 249 = some [.nilf] := by kernel_rfl
theorem eql1T249 {f : Nat} {c : List (Nat × Nat × Nat)}  : abin Tryz.prog .eql 249 (.c (.f f c)) (.c .nilf) = some (.c (.b false)) := by kernel_rfl
theorem eql2T249 : abin Tryz.prog .eql 249 (.c .nilf) (.c .nilf) = some (.c (.b true)) := by kernel_rfl
theorem neq1T249 {f : Nat} {c : List (Nat × Nat × Nat)}  : abin Tryz.prog .neq 249 (.c (.f f c)) (.c .nilf) = some (.c (.b true)) := by kernel_rfl
theorem neq2T249 : abin Tryz.prog .neq 249 (.c .nilf) (.c .nilf) = some (.c (.b false)) := by kernel_rfl
theorem dT257 : dT Tryz.prog 257 = .other := by kernel_rfl
theorem sT257 : szT Tryz.prog 257 = 1 := by kernel_rfl
theorem bT257 : byT Tryz.prog 257 = 8 := by kernel_rfl
theorem zT257 : zT Tryz.prog 257 = some [.nilf] := by kernel_rfl
theorem eql1T257 {f : Nat} {c : List (Nat × Nat × Nat)}  : abin Tryz.prog .eql 257 (.c (.f f c)) (.c .nilf) = some (.c (.b false)) := by kernel_rfl
theorem eql2T257 : abin Tryz.prog .eql 257 (.c .nilf) (.c .nilf) = some (.c (.b true)) := by kernel_rfl
theorem neq1T257 {f : Nat} {c : List (Nat × Nat × Nat)}  : abin Tryz.prog .neq 257 (.c (.f f c)) (.c .nilf) = some (.c (.b true)) := by kernel_rfl
theorem neq2T257 : abin Tryz.prog .neq 257 (.c .nilf) (.c .nilf) = some (.c (.b false)) := by kernel_rfl
theorem dT258 : dT Tryz.prog 258 = .ptr 5 := by kernel_rfl
theorem sT258 : szT Tryz.prog 258 = 1 := by kernel_rfl
theorem bT258 : byT Tryz.prog 258 = 8 := by kernel_rfl
theorem zT258 : zT Tryz.prog 258 = some [.nilp] := by kernel_rfl
theorem eql1T258 {a b c : Nat}  : abin Tryz.prog .eql 258 (.c (.p a b c)) (.c .nilp) = some (.c (.b false)) := by kernel_rfl
theorem eql2T258 : abin Tryz.prog .eql 258 (.c .nilp) (.c .nilp) = some (.c (.b true)) := by kernel_rfl
theorem neq1T258 {a b c : Nat}  : abin Tryz.prog .neq 258 (.c (.p a b c)) (.c .nilp) = some (.c (.b true)) := by kernel_rfl
theorem neq2T258 : abin Tryz.prog .neq 258 (.c .nilp) (.c .nilp) = some (.c (.b false)) := by kernel_rfl
theorem dT261 : dT Tryz.prog 261 = .st [(0, 12), (1, 12), (2, 134), (3, 255), (4, 5), (5, 5), (6, 256), (7, 257), (8, 258), (9, 259), (10, 260)] := by kernel_rfl
theorem sT261 : szT Tryz.prog 261 = 11 := by kernel_rfl
theorem bT261 : byT Tryz.prog 261 = 48 := by kernel_rfl
theorem zT261 : zT Tryz.prog 261 = some [.u 0#64, .u 0#64, .k .u32 (0), .k .u8 (0), .k .u8 (0), .k .u8 (0), .k .u8 (0), .nilf, .nilp, .k .i32 (0), .k .i32 (0)] := by kernel_rfl
attribute [go_sem] dT1 sT1 bT1 zT1 eql1T1 eql2T1 neq1T1 neq2T1 dT2 sT2 bT2 zT2 dT3 sT3 bT3 zT3 dT4 sT4 bT4 zT4 dT5 sT5 bT5 zT5 dT7 sT7 bT7 zT7 dT9 sT9 bT9 zT9 dT12 sT12 bT12 zT12 dT13 sT13 bT13 zT13 dT21 sT21 bT21 zT21 dT22 sT22 bT22 zT22 dT23 sT23 bT23 zT23 eql1T23 eql2T23 neq1T23 neq2T23 dT24 sT24 bT24 zT24 eql1T24 eql2T24 neq1T24 neq2T24 dT26 sT26 bT26 zT26 eql1T26 eql2T26 neq1T26 neq2T26 dT27 sT27 bT27 zT27 eql1T27 eql2T27 neq1T27 neq2T27 dT29 sT29 bT29 zT29 eql1T29 eql2T29 neq1T29 neq2T29 dT30 sT30 bT30 zT30 dT31 sT31 bT31 zT31 eqT31 neT31 dT32 sT32 bT32 zT32 eqT32 neT32 dT33 sT33 bT33 zT33 dT34 sT34 bT34 zT34 dT36 sT36 bT36 zT36 eql1T36 eql2T36 neq1T36 neq2T36 dT37 sT37 bT37 zT37 dT38 sT38 bT38 zT38 dT39 sT39 bT39 zT39 dT40 sT40 bT40 zT40 eqT40 neT40 dT41 sT41 bT41 zT41 dT42 sT42 bT42 zT42 eqT42 neT42 dT43 sT43 bT43 zT43 eql1T43 eql2T43 neq1T43 neq2T43 dT44 sT44 bT44 zT44 eql1T44 eql2T44 neq1T44 neq2T44 dT45 sT45 bT45 zT45 eql1T45 eql2T45 neq1T45 neq2T45 dT46 sT46 bT46 zT46 eql1T46 eql2T46 neq1T46 neq2T46 dT47 sT47 bT47 zT47 eql1T47 eql2T47 neq1T47 neq2T47 dT48 sT48 bT48 zT48 eql1T48 eql2T48 neq1T48 neq2T48 dT49 sT49 bT49 zT49 dT50 sT50 bT50 zT50 eqT50 neT50 dT51 sT51 bT51 zT51 eql1T51 eql2T51 neq1T51 neq2T51 dT52 sT52 bT52 zT52 eql1T52 eql2T52 neq1T52 neq2T52 dT53 sT53 bT53 zT53 eql1T53 eql2T53 neq1T53 neq2T53 dT54 sT54 bT54 zT54 dT56 sT56 bT56 zT56 eql1T56 eql2T56 neq1T56 neq2T56 dT57 sT57 bT57 zT57 dT58 sT58 bT58 zT58 dT59 sT59 bT59 zT59 eql1T59 eql2T59 neq1T59 neq2T59 dT60 sT60 bT60 zT60 eql1T60 eql2T60 neq1T60 neq2T60 dT61 sT61 bT61 zT61 eql1T61 eql2T61 neq1T61 neq2T61 dT62 sT62 bT62 zT62 eql1T62 eql2T62 neq1T62 neq2T62 dT63 sT63 bT63 zT63 eql1T63 eql2T63 neq1T63 neq2T63 dT64 sT64 bT64 zT64 eql1T64 eql2T64 neq1T64 neq2T64 dT65 sT65 bT65 zT65 eql1T65 eql2T65 neq1T65 neq2T65 dT66 sT66 bT66 zT66 eql1T66 eql2T66 neq1T66 neq2T66 dT68 sT68 bT68 zT68 eql1T68 eql2T68 neq1T68 neq2T68 dT69 sT69 bT69 zT69 dT70 sT70 bT70 zT70 eqT70 neT70 dT71 sT71 bT71 zT71 dT72 sT72 bT72 zT72 eqT72 neT72 dT73 sT73 bT73 zT73 eqT73 neT73 dT74 sT74 bT74 zT74 dT75 sT75 bT75 zT75 eqT75 neT75 dT76 sT76 bT76 zT76 eql1T76 eql2T76 neq1T76 neq2T76 dT77 sT77 bT77 zT77 eql1T77 eql2T77 neq1T77 neq2T77 dT78 sT78 bT78 zT78 eql1T78 eql2T78 neq1T78 neq2T78 dT79 sT79 bT79 zT79 eql1T79 eql2T79 neq1T79 neq2T79 dT80 sT80 bT80 zT80 eql1T80 eql2T80 neq1T80 neq2T80 dT81 sT81 bT81 zT81 eql1T81 eql2T81 neq1T81 neq2T81 dT82 sT82 bT82 zT82 dT83 sT83 bT83 zT83 eqT83 neT83 dT84 sT84 bT84 zT84 eqT84 neT84 dT85 sT85 bT85 dT86 sT86 bT86 dT87 sT87 bT87 dT88 sT88 bT88 dT89 sT89 bT89 dT90 sT90 bT90 zT90 eql1T90 eql2T90 neq1T90 neq2T90 dT91 sT91 bT91 zT91 eql1T91 eql2T91 neq1T91 neq2T91 dT92 sT92 bT92 zT92 dT93 sT93 bT93 zT93 dT94 sT94 bT94 zT94 eql1T94 eql2T94 neq1T94 neq2T94 dT95 sT95 bT95 zT95 eql1T95 eql2T95 neq1T95 neq2T95 dT96 sT96 bT96 zT96 eql1T96 eql2T96 neq1T96 neq2T96 dT97 sT97 bT97 zT97 eql1T97 eql2T97 neq1T97 neq2T97 dT98 sT98 bT98 zT98 eql1T98 eql2T98 neq1T98 neq2T98 dT100 sT100 bT100 zT100 eql1T100 eql2T100 neq1T100 neq2T100 dT102 sT102 bT102 zT102 eql1T102 eql2T102 neq1T102 neq2T102 dT103 sT103 bT103 zT103 eql1T103 eql2T103 neq1T103 neq2T103 dT104 sT104 bT104 zT104 eql1T104 eql2T104 neq1T104 neq2T104 dT106 sT106 bT106 zT106 eql1T106 eql2T106 neq1T106 neq2T106 dT107 sT107 bT107 zT107 dT108 sT108 bT108 zT108 dT109 sT109 bT109 zT109 dT110 sT110 bT110 zT110 dT111 sT111 bT111 zT111 eql1T111 eql2T111 neq1T111 neq2T111 dT112 sT112 bT112 zT112 eql1T112 eql2T112 neq1T112 neq2T112 dT113 sT113 bT113 zT113 eql1T113 eql2T113 neq1T113 neq2T113 dT114 sT114 bT114 zT114 eql1T114 eql2T114 neq1T114 neq2T114 dT115 sT115 bT115 zT115 eql1T115 eql2T115 neq1T115 neq2T115 dT116 sT116 bT116 zT116 eql1T116 eql2T116 neq1T116 neq2T116 dT117 sT117 bT117 zT117 eql1T117 eql2T117 neq1T117 neq2T117 dT119 sT119 bT119 zT119 eql1T119 eql2T119 neq1T119 neq2T119 dT120 sT120 bT120 zT120 dT121 sT121 bT121 zT121 dT122 sT122 bT122 zT122 eql1T122 eql2T122 neq1T122 neq2T122 dT123 sT123 bT123 zT123 eql1T123 eql2T123 neq1T123 neq2T123 dT124 sT124 bT124 zT124 dT125 sT125 bT125 zT125 dT126 sT126 bT126 zT126 eql1T126 eql2T126 neq1T126 neq2T126 dT127 sT127 bT127 zT127 eql1T127 eql2T127 neq1T127 neq2T127 dT128 sT128 bT128 zT128 eql1T128 eql2T128 neq1T128 neq2T128 dT129 sT129 bT129 zT129 eqT129 neT129 dT130 sT130 bT130 zT130 eqT130 neT130 dT131 sT131 bT131 zT131 dT132 sT132 bT132 zT132 eqT132 neT132 dT133 sT133 bT133 zT133 eqT133 neT133 dT134 sT134 bT134 zT134 dT135 sT135 bT135 zT135 eqT135 neT135 dT136 sT136 bT136 zT136 eqT136 neT136 dT137 sT137 bT137 zT137 dT138 sT138 bT138 zT138 dT139 sT139 bT139 zT139 dT140 sT140 bT140 zT140 dT141 sT141 bT141 zT141 eql1T141 eql2T141 neq1T141 neq2T141 dT142 sT142 bT142 zT142 dT143 sT143 bT143 zT143 eqT143 neT143 dT144 sT144 bT144 zT144 eql1T144 eql2T144 neq1T144 neq2T144 dT145 sT145 bT145 zT145 eql1T145 eql2T145 neq1T145 neq2T145 dT146 sT146 bT146 zT146 eql1T146 eql2T146 neq1T146 neq2T146 dT147 sT147 bT147 zT147 eql1T147 eql2T147 neq1T147 neq2T147 dT148 sT148 bT148 zT148 eql1T148 eql2T148 neq1T148 neq2T148 dT149 sT149 bT149 zT149 eql1T149 eql2T149 neq1T149 neq2T149 dT150 sT150 bT150 zT150 eql1T150 eql2T150 neq1T150 neq2T150 dT151 sT151 bT151 zT151 eql1T151 eql2T151 neq1T151 neq2T151 dT152 sT152 bT152 zT152 eql1T152 eql2T152 neq1T152 neq2T152 dT153 sT153 bT153 zT153 eql1T153 eql2T153 neq1T153 neq2T153 dT154 sT154 bT154 zT154 eql1T154 eql2T154 neq1T154 neq2T154 dT155 sT155 bT155 zT155 eql1T155 eql2T155 neq1T155 neq2T155 dT156 sT156 bT156 zT156 eql1T156 eql2T156 neq1T156 neq2T156 dT157 sT157 bT157 zT157 eql1T157 eql2T157 neq1T157 neq2T157 dT158 sT158 bT158 zT158 eql1T158 eql2T158 neq1T158 neq2T158 dT159 sT159 bT159 zT159 eql1T159 eql2T159 neq1T159 neq2T159 dT160 sT160 bT160 zT160 eql1T160 eql2T160 neq1T160 neq2T160 mT161 kA182 kOkG182 zA121 dT162 sT162 bT162 zT162 dT163 sT163 bT163 zT163 dT164 sT164 bT164 zT164 eql1T164 eql2T164 neq1T164 neq2T164 dT165 sT165 bT165 zT165 eql1T165 eql2T165 neq1T165 neq2T165 dT166 sT166 bT166 zT166 dT167 sT167 bT167 zT167 eqT167 neT167 dT168 sT168 bT168 zT168 eql1T168 eql2T168 neq1T168 neq2T168 dT169 sT169 bT169 zT169 dT170 sT170 bT170 zT170 eqT170 neT170 dT171 sT171 bT171 zT171 eql1T171 eql2T171 neq1T171 neq2T171 dT172 sT172 bT172 zT172 eql1T172 eql2T172 neq1T172 neq2T172 dT173 sT173 bT173 zT173 eql1T173 eql2T173 neq1T173 neq2T173 dT174 sT174 bT174 zT174 eql1T174 eql2T174 neq1T174 neq2T174 dT175 sT175 bT175 zT175 eql1T175 eql2T175 neq1T175 neq2T175 dT177 sT177 bT177 zT177 eql1T177 eql2T177 neq1T177 neq2T177 dT178 sT178 bT178 zT178 eql1T178 eql2T178 neq1T178 neq2T178 dT179 sT179 bT179 zT179 eql1T179 eql2T179 neq1T179 neq2T179 dT180 sT180 bT180 zT180 eql1T180 eql2T180 neq1T180 neq2T180 dT181 sT181 bT181 zT181 dT182 sT182 bT182 zT182 eqT182 neT182 dT183 sT183 bT183 zT183 eql1T183 eql2T183 neq1T183 neq2T183 dT184 sT184 bT184 zT184 eql1T184 eql2T184 neq1T184 neq2T184 dT185 sT185 bT185 zT185 eql1T185 eql2T185 neq1T185 neq2T185 dT186 sT186 bT186 zT186 eql1T186 eql2T186 neq1T186 neq2T186 dT188 sT188 bT188 zT188 eql1T188 eql2T188 neq1T188 neq2T188 dT189 sT189 bT189 zT189 eql1T189 eql2T189 neq1T189 neq2T189 dT190 sT190 bT190 zT190 eql1T190 eql2T190 neq1T190 neq2T190 dT191 sT191 bT191 zT191 dT192 sT192 bT192 zT192 dT193 sT193 bT193 zT193 eql1T193 eql2T193 neq1T193 neq2T193 dT194 sT194 bT194 zT194 eql1T194 eql2T194 neq1T194 neq2T194 dT195 sT195 bT195 zT195 eql1T195 eql2T195 neq1T195 neq2T195 dT196 sT196 bT196 zT196 eql1T196 eql2T196 neq1T196 neq2T196 dT197 sT197 bT197 zT197 eqT197 neT197 dT198 sT198 bT198 zT198 eql1T198 eql2T198 neq1T198 neq2T198 dT199 sT199 bT199 zT199 eql1T199 eql2T199 neq1T199 neq2T199 dT200 sT200 bT200 zT200 eql1T200 eql2T200 neq1T200 neq2T200 dT201 sT201 bT201 zT201 eql1T201 eql2T201 neq1T201 neq2T201 dT202 sT202 bT202 zT202 eql1T202 eql2T202 neq1T202 neq2T202 dT203 sT203 bT203 zT203 eql1T203 eql2T203 neq1T203 neq2T203 dT205 sT205 bT205 zT205 eql1T205 eql2T205 neq1T205 neq2T205 dT206 sT206 bT206 zT206 eql1T206 eql2T206 neq1T206 neq2T206 dT207 sT207 bT207 zT207 eql1T207 eql2T207 neq1T207 neq2T207 dT208 sT208 bT208 zT208 eql1T208 eql2T208 neq1T208 neq2T208 dT209 sT209 bT209 zT209 eql1T209 eql2T209 neq1T209 neq2T209 dT211 sT211 bT211 zT211 eql1T211 eql2T211 neq1T211 neq2T211 dT212 sT212 bT212 zT212 eql1T212 eql2T212 neq1T212 neq2T212 dT213 sT213 bT213 zT213 dT214 sT214 bT214 zT214 dT216 sT216 bT216 zT216 eql1T216 eql2T216 neq1T216 neq2T216 dT217 sT217 bT217 zT217 dT219 sT219 bT219 zT219 eql1T219 eql2T219 neq1T219 neq2T219 dT220 sT220 bT220 zT220 eql1T220 eql2T220 neq1T220 neq2T220 dT221 sT221 bT221 zT221 eql1T221 eql2T221 neq1T221 neq2T221 dT222 sT222 bT222 zT222 eqT222 neT222 dT223 sT223 bT223 zT223 eql1T223 eql2T223 neq1T223 neq2T223 dT224 sT224 bT224 zT224 eql1T224 eql2T224 neq1T224 neq2T224 dT225 sT225 bT225 zT225 eql1T225 eql2T225 neq1T225 neq2T225 dT226 sT226 bT226 zT226 eql1T226 eql2T226 neq1T226 neq2T226 dT227 sT227 bT227 zT227 eql1T227 eql2T227 neq1T227 neq2T227 dT228 sT228 bT228 zT228 eql1T228 eql2T228 neq1T228 neq2T228 dT229 sT229 bT229 zT229 eql1T229 eql2T229 neq1T229 neq2T229 dT230 sT230 bT230 zT230 eql1T230 eql2T230 neq1T230 neq2T230 dT231 sT231 bT231 zT231 dT233 sT233 bT233 zT233 eql1T233 eql2T233 neq1T233 neq2T233 dT234 sT234 bT234 zT234 eql1T234 eql2T234 neq1T234 neq2T234 dT235 sT235 bT235 zT235 eql1T235 eql2T235 neq1T235 neq2T235 dT236 sT236 bT236 zT236 eql1T236 eql2T236 neq1T236 neq2T236 dT237 sT237 bT237 zT237 eql1T237 eql2T237 neq1T237 neq2T237 dT238 sT238 bT238 zT238 eql1T238 eql2T238 neq1T238 neq2T238 dT239 sT239 bT239 zT239 eql1T239 eql2T239 neq1T239 neq2T239 dT240 sT240 bT240 zT240 dT241 sT241 bT241 zT241 eql1T241 eql2T241 neq1T241 neq2T241 dT242 sT242 bT242 zT242 eql1T242 eql2T242 neq1T242 neq2T242 dT243 sT243 bT243 zT243 eql1T243 eql2T243 neq1T243 neq2T243 dT244 sT244 bT244 zT244 eql1T244 eql2T244 neq1T244 neq2T244 dT245 sT245 bT245 zT245 eql1T245 eql2T245 neq1T245 neq2T245 dT246 sT246 bT246 zT246 eql1T246 eql2T246 neq1T246 neq2T246 dT247 sT247 bT247 zT247 eql1T247 eql2T247 neq1T247 neq2T247 dT248 sT248 bT248 zT248 eql1T248 eql2T248 neq1T248 neq2T248 dT249 sT249 bT249 zT249 eql1T249 eql2T249 neq1T249 neq2T249 dT257 sT257 bT257 zT257 eql1T257 eql2T257 neq1T257 neq2T257 dT258 sT258 bT258 zT258 eql1T258 eql2T258 neq1T258 neq2T258 dT261 sT261 bT261 zT261
end Go.Proofs.YtcbhelkafelofaaGreat
