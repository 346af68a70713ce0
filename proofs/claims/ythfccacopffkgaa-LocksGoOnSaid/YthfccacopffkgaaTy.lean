/- The types of this translation, as the abstract machine reads them: closed facts. -/
import Derived.Test.YthfccacopffkgaaProg
import Derived.Test.YthfccacopffkgaaAw
namespace Go.Proofs.Ythfccacopffkgaa
open Go.Am
set_option maxRecDepth 100000
def zRow (n : Nat) (s : Sc) : List Sc := List.replicate n s
theorem zRow_len {n : Nat} {s : Sc} : (zRow n s).length = n := List.length_replicate
attribute [go_sem] zRow_len
theorem hmix : Try.prog.follows .mixedOrders = true := by kernel_rfl
theorem dT1 : dT Try.prog 1 = .other := by kernel_rfl
theorem sT1 : szT Try.prog 1 = 1 := by kernel_rfl
theorem bT1 : byT Try.prog 1 = 8 := by kernel_rfl
theorem zT1 : zT Try.prog 1 = some [.nilf] := by kernel_rfl
theorem eql1T1 {f : Nat} {c : List (Nat × Nat × Nat)}  : abin Try.prog .eql 1 (.c (.f f c)) (.c .nilf) = some (.c (.b false)) := by kernel_rfl
theorem eql2T1 : abin Try.prog .eql 1 (.c .nilf) (.c .nilf) = some (.c (.b true)) := by kernel_rfl
theorem neq1T1 {f : Nat} {c : List (Nat × Nat × Nat)}  : abin Try.prog .neq 1 (.c (.f f c)) (.c .nilf) = some (.c (.b true)) := by kernel_rfl
theorem neq2T1 : abin Try.prog .neq 1 (.c .nilf) (.c .nilf) = some (.c (.b false)) := by kernel_rfl
theorem dT2 : dT Try.prog 2 = .int .i64 := by kernel_rfl
theorem sT2 : szT Try.prog 2 = 1 := by kernel_rfl
theorem bT2 : byT Try.prog 2 = 8 := by kernel_rfl
theorem zT2 : zT Try.prog 2 = some [.i 0] := by kernel_rfl
theorem dT3 : dT Try.prog 3 = .int .i64 := by kernel_rfl
theorem sT3 : szT Try.prog 3 = 1 := by kernel_rfl
theorem bT3 : byT Try.prog 3 = 8 := by kernel_rfl
theorem zT3 : zT Try.prog 3 = some [.i 0] := by kernel_rfl
theorem dT4 : dT Try.prog 4 = .bool := by kernel_rfl
theorem sT4 : szT Try.prog 4 = 1 := by kernel_rfl
theorem bT4 : byT Try.prog 4 = 1 := by kernel_rfl
theorem zT4 : zT Try.prog 4 = some [.b false] := by kernel_rfl
theorem dT5 : dT Try.prog 5 = .int .u8 := by kernel_rfl
theorem sT5 : szT Try.prog 5 = 1 := by kernel_rfl
theorem bT5 : byT Try.prog 5 = 1 := by kernel_rfl
theorem zT5 : zT Try.prog 5 = some [.k .u8 (0)] := by kernel_rfl
theorem dT7 : dT Try.prog 7 = .st [(0, 2), (1, 3), (2, 4), (3, 6)] := by kernel_rfl
theorem sT7 : szT Try.prog 7 = 4 := by kernel_rfl
theorem bT7 : byT Try.prog 7 = 24 := by kernel_rfl
theorem zT7 : zT Try.prog 7 = some [.i 0, .i 0, .b false, .k .u8 (0)] := by kernel_rfl
theorem dT9 : dT Try.prog 9 = .str := by kernel_rfl
theorem sT9 : szT Try.prog 9 = 1 := by kernel_rfl
theorem bT9 : byT Try.prog 9 = 16 := by kernel_rfl
theorem zT9 : zT Try.prog 9 = some [.s ByteArray.empty] := by kernel_rfl
theorem dT12 : dT Try.prog 12 = .int .u64 := by kernel_rfl
theorem sT12 : szT Try.prog 12 = 1 := by kernel_rfl
theorem bT12 : byT Try.prog 12 = 8 := by kernel_rfl
theorem zT12 : zT Try.prog 12 = some [.u 0#64] := by kernel_rfl
theorem dT13 : dT Try.prog 13 = .st [(0, 9), (1, 12)] := by kernel_rfl
theorem sT13 : szT Try.prog 13 = 2 := by kernel_rfl
theorem bT13 : byT Try.prog 13 = 24 := by kernel_rfl
theorem zT13 : zT Try.prog 13 = some [.s ByteArray.empty, .u 0#64] := by kernel_rfl
theorem dT21 : dT Try.prog 21 = .int .i32 := by kernel_rfl
theorem sT21 : szT Try.prog 21 = 1 := by kernel_rfl
theorem bT21 : byT Try.prog 21 = 4 := by kernel_rfl
theorem zT21 : zT Try.prog 21 = some [.k .i32 (0)] := by kernel_rfl
theorem dT22 : dT Try.prog 22 = .sl 3 := by kernel_rfl
theorem sT22 : szT Try.prog 22 = 1 := by kernel_rfl
theorem bT22 : byT Try.prog 22 = 24 := by kernel_rfl
theorem zT22 : zT Try.prog 22 = some [.nils] := by kernel_rfl
theorem eql1T22 {a b c n : Nat}  : abin Try.prog .eql 22 (.c (.sl a b c n)) (.c .nils) = if n = 0 then some (.c .qq) else some (.c (.b false)) := by kernel_rfl
theorem eql2T22 : abin Try.prog .eql 22 (.c .nils) (.c .nils) = some (.c (.b true)) := by kernel_rfl
theorem neq1T22 {a b c n : Nat}  : abin Try.prog .neq 22 (.c (.sl a b c n)) (.c .nils) = if n = 0 then some (.c .qq) else some (.c (.b true)) := by kernel_rfl
theorem neq2T22 : abin Try.prog .neq 22 (.c .nils) (.c .nils) = some (.c (.b false)) := by kernel_rfl
theorem dT23 : dT Try.prog 23 = .arr 8 22 := by kernel_rfl
theorem sT23 : szT Try.prog 23 = 8 := by kernel_rfl
theorem bT23 : byT Try.prog 23 = 192 := by kernel_rfl
theorem zT23 : zT Try.prog 23 = some [.nils, .nils, .nils, .nils, .nils, .nils, .nils, .nils] := by kernel_rfl
theorem dT24 : dT Try.prog 24 = .sl 5 := by kernel_rfl
theorem sT24 : szT Try.prog 24 = 1 := by kernel_rfl
theorem bT24 : byT Try.prog 24 = 24 := by kernel_rfl
theorem zT24 : zT Try.prog 24 = some [.nils] := by kernel_rfl
theorem eql1T24 {a b c n : Nat}  : abin Try.prog .eql 24 (.c (.sl a b c n)) (.c .nils) = if n = 0 then some (.c .qq) else some (.c (.b false)) := by kernel_rfl
theorem eql2T24 : abin Try.prog .eql 24 (.c .nils) (.c .nils) = some (.c (.b true)) := by kernel_rfl
theorem neq1T24 {a b c n : Nat}  : abin Try.prog .neq 24 (.c (.sl a b c n)) (.c .nils) = if n = 0 then some (.c .qq) else some (.c (.b true)) := by kernel_rfl
theorem neq2T24 : abin Try.prog .neq 24 (.c .nils) (.c .nils) = some (.c (.b false)) := by kernel_rfl
theorem dT25 : dT Try.prog 25 = .other := by kernel_rfl
theorem sT25 : szT Try.prog 25 = 1 := by kernel_rfl
theorem bT25 : byT Try.prog 25 = 8 := by kernel_rfl
theorem zT25 : zT Try.prog 25 = some [.nilf] := by kernel_rfl
theorem eql1T25 {f : Nat} {c : List (Nat × Nat × Nat)}  : abin Try.prog .eql 25 (.c (.f f c)) (.c .nilf) = some (.c (.b false)) := by kernel_rfl
theorem eql2T25 : abin Try.prog .eql 25 (.c .nilf) (.c .nilf) = some (.c (.b true)) := by kernel_rfl
theorem neq1T25 {f : Nat} {c : List (Nat × Nat × Nat)}  : abin Try.prog .neq 25 (.c (.f f c)) (.c .nilf) = some (.c (.b true)) := by kernel_rfl
theorem neq2T25 : abin Try.prog .neq 25 (.c .nilf) (.c .nilf) = some (.c (.b false)) := by kernel_rfl
theorem dT26 : dT Try.prog 26 = .ptr 65 := by kernel_rfl
theorem sT26 : szT Try.prog 26 = 1 := by kernel_rfl
theorem bT26 : byT Try.prog 26 = 8 := by kernel_rfl
theorem zT26 : zT Try.prog 26 = some [.nilp] := by kernel_rfl
theorem eql1T26 {a b c : Nat}  : abin Try.prog .eql 26 (.c (.p a b c)) (.c .nilp) = some (.c (.b false)) := by kernel_rfl
theorem eql2T26 : abin Try.prog .eql 26 (.c .nilp) (.c .nilp) = some (.c (.b true)) := by kernel_rfl
theorem neq1T26 {a b c : Nat}  : abin Try.prog .neq 26 (.c (.p a b c)) (.c .nilp) = some (.c (.b true)) := by kernel_rfl
theorem neq2T26 : abin Try.prog .neq 26 (.c .nilp) (.c .nilp) = some (.c (.b false)) := by kernel_rfl
theorem dT27 : dT Try.prog 27 = .int .i64 := by kernel_rfl
theorem sT27 : szT Try.prog 27 = 1 := by kernel_rfl
theorem bT27 : byT Try.prog 27 = 8 := by kernel_rfl
theorem zT27 : zT Try.prog 27 = some [.i 0] := by kernel_rfl
theorem dT29 : dT Try.prog 29 = .other := by kernel_rfl
theorem sT29 : szT Try.prog 29 = 1 := by kernel_rfl
theorem bT29 : byT Try.prog 29 = 8 := by kernel_rfl
theorem zT29 : zT Try.prog 29 = some [.nilf] := by kernel_rfl
theorem eql1T29 {f : Nat} {c : List (Nat × Nat × Nat)}  : abin Try.prog .eql 29 (.c (.f f c)) (.c .nilf) = some (.c (.b false)) := by kernel_rfl
theorem eql2T29 : abin Try.prog .eql 29 (.c .nilf) (.c .nilf) = some (.c (.b true)) := by kernel_rfl
theorem neq1T29 {f : Nat} {c : List (Nat × Nat × Nat)}  : abin Try.prog .neq 29 (.c (.f f c)) (.c .nilf) = some (.c (.b true)) := by kernel_rfl
theorem neq2T29 : abin Try.prog .neq 29 (.c .nilf) (.c .nilf) = some (.c (.b false)) := by kernel_rfl
theorem dT30 : dT Try.prog 30 = .st [(0, 22), (1, 3), (2, 4), (3, 3)] := by kernel_rfl
theorem sT30 : szT Try.prog 30 = 4 := by kernel_rfl
theorem bT30 : byT Try.prog 30 = 48 := by kernel_rfl
theorem zT30 : zT Try.prog 30 = some [.nils, .i 0, .b false, .i 0] := by kernel_rfl
theorem dT31 : dT Try.prog 31 = .st [(0, 22), (1, 3), (2, 4), (3, 3)] := by kernel_rfl
theorem sT31 : szT Try.prog 31 = 4 := by kernel_rfl
theorem bT31 : byT Try.prog 31 = 48 := by kernel_rfl
theorem zT31 : zT Try.prog 31 = some [.nils, .i 0, .b false, .i 0] := by kernel_rfl
theorem dT32 : dT Try.prog 32 = .arr 8 31 := by kernel_rfl
theorem sT32 : szT Try.prog 32 = 32 := by kernel_rfl
theorem bT32 : byT Try.prog 32 = 384 := by kernel_rfl
theorem zT32 : zT Try.prog 32 = some [.nils, .i 0, .b false, .i 0, .nils, .i 0, .b false, .i 0, .nils, .i 0, .b false, .i 0, .nils, .i 0, .b false, .i 0, .nils, .i 0, .b false, .i 0, .nils, .i 0, .b false, .i 0, .nils, .i 0, .b false, .i 0, .nils, .i 0, .b false, .i 0] := by kernel_rfl
theorem dT33 : dT Try.prog 33 = .other := by kernel_rfl
theorem sT33 : szT Try.prog 33 = 1 := by kernel_rfl
theorem bT33 : byT Try.prog 33 = 8 := by kernel_rfl
theorem zT33 : zT Try.prog 33 = some [.nilf] := by kernel_rfl
theorem eql1T33 {f : Nat} {c : List (Nat × Nat × Nat)}  : abin Try.prog .eql 33 (.c (.f f c)) (.c .nilf) = some (.c (.b false)) := by kernel_rfl
theorem eql2T33 : abin Try.prog .eql 33 (.c .nilf) (.c .nilf) = some (.c (.b true)) := by kernel_rfl
theorem neq1T33 {f : Nat} {c : List (Nat × Nat × Nat)}  : abin Try.prog .neq 33 (.c (.f f c)) (.c .nilf) = some (.c (.b true)) := by kernel_rfl
theorem neq2T33 : abin Try.prog .neq 33 (.c .nilf) (.c .nilf) = some (.c (.b false)) := by kernel_rfl
theorem dT34 : dT Try.prog 34 = .other := by kernel_rfl
theorem sT34 : szT Try.prog 34 = 1 := by kernel_rfl
theorem bT34 : byT Try.prog 34 = 8 := by kernel_rfl
theorem zT34 : zT Try.prog 34 = some [.nilf] := by kernel_rfl
theorem eql1T34 {f : Nat} {c : List (Nat × Nat × Nat)}  : abin Try.prog .eql 34 (.c (.f f c)) (.c .nilf) = some (.c (.b false)) := by kernel_rfl
theorem eql2T34 : abin Try.prog .eql 34 (.c .nilf) (.c .nilf) = some (.c (.b true)) := by kernel_rfl
theorem neq1T34 {f : Nat} {c : List (Nat × Nat × Nat)}  : abin Try.prog .neq 34 (.c (.f f c)) (.c .nilf) = some (.c (.b true)) := by kernel_rfl
theorem neq2T34 : abin Try.prog .neq 34 (.c .nilf) (.c .nilf) = some (.c (.b false)) := by kernel_rfl
theorem dT35 : dT Try.prog 35 = .other := by kernel_rfl
theorem sT35 : szT Try.prog 35 = 1 := by kernel_rfl
theorem bT35 : byT Try.prog 35 = 8 := by kernel_rfl
theorem zT35 : zT Try.prog 35 = some [.nilf] := by kernel_rfl
theorem eql1T35 {f : Nat} {c : List (Nat × Nat × Nat)}  : abin Try.prog .eql 35 (.c (.f f c)) (.c .nilf) = some (.c (.b false)) := by kernel_rfl
theorem eql2T35 : abin Try.prog .eql 35 (.c .nilf) (.c .nilf) = some (.c (.b true)) := by kernel_rfl
theorem neq1T35 {f : Nat} {c : List (Nat × Nat × Nat)}  : abin Try.prog .neq 35 (.c (.f f c)) (.c .nilf) = some (.c (.b true)) := by kernel_rfl
theorem neq2T35 : abin Try.prog .neq 35 (.c .nilf) (.c .nilf) = some (.c (.b false)) := by kernel_rfl
theorem dT36 : dT Try.prog 36 = .ptr 31 := by kernel_rfl
theorem sT36 : szT Try.prog 36 = 1 := by kernel_rfl
theorem bT36 : byT Try.prog 36 = 8 := by kernel_rfl
theorem zT36 : zT Try.prog 36 = some [.nilp] := by kernel_rfl
theorem eql1T36 {a b c : Nat}  : abin Try.prog .eql 36 (.c (.p a b c)) (.c .nilp) = some (.c (.b false)) := by kernel_rfl
theorem eql2T36 : abin Try.prog .eql 36 (.c .nilp) (.c .nilp) = some (.c (.b true)) := by kernel_rfl
theorem neq1T36 {a b c : Nat}  : abin Try.prog .neq 36 (.c (.p a b c)) (.c .nilp) = some (.c (.b true)) := by kernel_rfl
theorem neq2T36 : abin Try.prog .neq 36 (.c .nilp) (.c .nilp) = some (.c (.b false)) := by kernel_rfl
theorem dT37 : dT Try.prog 37 = .other := by kernel_rfl
theorem sT37 : szT Try.prog 37 = 1 := by kernel_rfl
theorem bT37 : byT Try.prog 37 = 8 := by kernel_rfl
theorem zT37 : zT Try.prog 37 = some [.nilf] := by kernel_rfl
theorem eql1T37 {f : Nat} {c : List (Nat × Nat × Nat)}  : abin Try.prog .eql 37 (.c (.f f c)) (.c .nilf) = some (.c (.b false)) := by kernel_rfl
theorem eql2T37 : abin Try.prog .eql 37 (.c .nilf) (.c .nilf) = some (.c (.b true)) := by kernel_rfl
theorem neq1T37 {f : Nat} {c : List (Nat × Nat × Nat)}  : abin Try.prog .neq 37 (.c (.f f c)) (.c .nilf) = some (.c (.b true)) := by kernel_rfl
theorem neq2T37 : abin Try.prog .neq 37 (.c .nilf) (.c .nilf) = some (.c (.b false)) := by kernel_rfl
theorem dT38 : dT Try.prog 38 = .other := by kernel_rfl
theorem sT38 : szT Try.prog 38 = 1 := by kernel_rfl
theorem bT38 : byT Try.prog 38 = 8 := by kernel_rfl
theorem zT38 : zT Try.prog 38 = some [.nilf] := by kernel_rfl
theorem eql1T38 {f : Nat} {c : List (Nat × Nat × Nat)}  : abin Try.prog .eql 38 (.c (.f f c)) (.c .nilf) = some (.c (.b false)) := by kernel_rfl
theorem eql2T38 : abin Try.prog .eql 38 (.c .nilf) (.c .nilf) = some (.c (.b true)) := by kernel_rfl
theorem neq1T38 {f : Nat} {c : List (Nat × Nat × Nat)}  : abin Try.prog .neq 38 (.c (.f f c)) (.c .nilf) = some (.c (.b true)) := by kernel_rfl
theorem neq2T38 : abin Try.prog .neq 38 (.c .nilf) (.c .nilf) = some (.c (.b false)) := by kernel_rfl
theorem dT39 : dT Try.prog 39 = .sl 41 := by kernel_rfl
theorem sT39 : szT Try.prog 39 = 1 := by kernel_rfl
theorem bT39 : byT Try.prog 39 = 24 := by kernel_rfl
theorem zT39 : zT Try.prog 39 = some [.nils] := by kernel_rfl
theorem eql1T39 {a b c n : Nat}  : abin Try.prog .eql 39 (.c (.sl a b c n)) (.c .nils) = if n = 0 then some (.c .qq) else some (.c (.b false)) := by kernel_rfl
theorem eql2T39 : abin Try.prog .eql 39 (.c .nils) (.c .nils) = some (.c (.b true)) := by kernel_rfl
theorem neq1T39 {a b c n : Nat}  : abin Try.prog .neq 39 (.c (.sl a b c n)) (.c .nils) = if n = 0 then some (.c .qq) else some (.c (.b true)) := by kernel_rfl
theorem neq2T39 : abin Try.prog .neq 39 (.c .nils) (.c .nils) = some (.c (.b false)) := by kernel_rfl
theorem dT40 : dT Try.prog 40 = .st [(0, 4), (1, 3), (2, 3)] := by kernel_rfl
theorem sT40 : szT Try.prog 40 = 3 := by kernel_rfl
theorem bT40 : byT Try.prog 40 = 24 := by kernel_rfl
theorem zT40 : zT Try.prog 40 = some [.b false, .i 0, .i 0] := by kernel_rfl
theorem dT41 : dT Try.prog 41 = .st [(0, 4), (1, 3), (2, 3)] := by kernel_rfl
theorem sT41 : szT Try.prog 41 = 3 := by kernel_rfl
theorem bT41 : byT Try.prog 41 = 24 := by kernel_rfl
theorem zT41 : zT Try.prog 41 = some [.b false, .i 0, .i 0] := by kernel_rfl
theorem gT41 : tagsT Try.prog 12 41 = some [.q, .n, .n] := by kernel_rfl
theorem eqT41 {a b : List Sc} : abin Try.prog .eql 41 (.g a) (.g b) = (csEq [.q, .n, .n] a b).bind (eqU .eql) := ab_g_eql _ (by simp only [dT41, D.agg]) gT41
theorem neT41 {a b : List Sc} : abin Try.prog .neq 41 (.g a) (.g b) = (csEq [.q, .n, .n] a b).bind (eqU .neq) := ab_g_neq _ (by simp only [dT41, D.agg]) gT41
theorem dT42 : dT Try.prog 42 = .sl 74 := by kernel_rfl
theorem sT42 : szT Try.prog 42 = 1 := by kernel_rfl
theorem bT42 : byT Try.prog 42 = 24 := by kernel_rfl
theorem zT42 : zT Try.prog 42 = some [.nils] := by kernel_rfl
theorem eql1T42 {a b c n : Nat}  : abin Try.prog .eql 42 (.c (.sl a b c n)) (.c .nils) = if n = 0 then some (.c .qq) else some (.c (.b false)) := by kernel_rfl
theorem eql2T42 : abin Try.prog .eql 42 (.c .nils) (.c .nils) = some (.c (.b true)) := by kernel_rfl
theorem neq1T42 {a b c n : Nat}  : abin Try.prog .neq 42 (.c (.sl a b c n)) (.c .nils) = if n = 0 then some (.c .qq) else some (.c (.b true)) := by kernel_rfl
theorem neq2T42 : abin Try.prog .neq 42 (.c .nils) (.c .nils) = some (.c (.b false)) := by kernel_rfl
theorem dT43 : dT Try.prog 43 = .other := by kernel_rfl
theorem sT43 : szT Try.prog 43 = 1 := by kernel_rfl
theorem bT43 : byT Try.prog 43 = 8 := by kernel_rfl
theorem zT43 : zT Try.prog 43 = some [.nilf] := by kernel_rfl
theorem eql1T43 {f : Nat} {c : List (Nat × Nat × Nat)}  : abin Try.prog .eql 43 (.c (.f f c)) (.c .nilf) = some (.c (.b false)) := by kernel_rfl
theorem eql2T43 : abin Try.prog .eql 43 (.c .nilf) (.c .nilf) = some (.c (.b true)) := by kernel_rfl
theorem neq1T43 {f : Nat} {c : List (Nat × Nat × Nat)}  : abin Try.prog .neq 43 (.c (.f f c)) (.c .nilf) = some (.c (.b true)) := by kernel_rfl
theorem neq2T43 : abin Try.prog .neq 43 (.c .nilf) (.c .nilf) = some (.c (.b false)) := by kernel_rfl
theorem dT44 : dT Try.prog 44 = .other := by kernel_rfl
theorem sT44 : szT Try.prog 44 = 1 := by kernel_rfl
theorem bT44 : byT Try.prog 44 = 8 := by kernel_rfl
theorem zT44 : zT Try.prog 44 = some [.nilf] := by kernel_rfl
theorem eql1T44 {f : Nat} {c : List (Nat × Nat × Nat)}  : abin Try.prog .eql 44 (.c (.f f c)) (.c .nilf) = some (.c (.b false)) := by kernel_rfl
theorem eql2T44 : abin Try.prog .eql 44 (.c .nilf) (.c .nilf) = some (.c (.b true)) := by kernel_rfl
theorem neq1T44 {f : Nat} {c : List (Nat × Nat × Nat)}  : abin Try.prog .neq 44 (.c (.f f c)) (.c .nilf) = some (.c (.b true)) := by kernel_rfl
theorem neq2T44 : abin Try.prog .neq 44 (.c .nilf) (.c .nilf) = some (.c (.b false)) := by kernel_rfl
theorem dT45 : dT Try.prog 45 = .other := by kernel_rfl
theorem sT45 : szT Try.prog 45 = 1 := by kernel_rfl
theorem bT45 : byT Try.prog 45 = 8 := by kernel_rfl
theorem zT45 : zT Try.prog 45 = some [.nilf] := by kernel_rfl
theorem eql1T45 {f : Nat} {c : List (Nat × Nat × Nat)}  : abin Try.prog .eql 45 (.c (.f f c)) (.c .nilf) = some (.c (.b false)) := by kernel_rfl
theorem eql2T45 : abin Try.prog .eql 45 (.c .nilf) (.c .nilf) = some (.c (.b true)) := by kernel_rfl
theorem neq1T45 {f : Nat} {c : List (Nat × Nat × Nat)}  : abin Try.prog .neq 45 (.c (.f f c)) (.c .nilf) = some (.c (.b true)) := by kernel_rfl
theorem neq2T45 : abin Try.prog .neq 45 (.c .nilf) (.c .nilf) = some (.c (.b false)) := by kernel_rfl
theorem dT46 : dT Try.prog 46 = .other := by kernel_rfl
theorem sT46 : szT Try.prog 46 = 1 := by kernel_rfl
theorem bT46 : byT Try.prog 46 = 8 := by kernel_rfl
theorem zT46 : zT Try.prog 46 = some [.nilf] := by kernel_rfl
theorem eql1T46 {f : Nat} {c : List (Nat × Nat × Nat)}  : abin Try.prog .eql 46 (.c (.f f c)) (.c .nilf) = some (.c (.b false)) := by kernel_rfl
theorem eql2T46 : abin Try.prog .eql 46 (.c .nilf) (.c .nilf) = some (.c (.b true)) := by kernel_rfl
theorem neq1T46 {f : Nat} {c : List (Nat × Nat × Nat)}  : abin Try.prog .neq 46 (.c (.f f c)) (.c .nilf) = some (.c (.b true)) := by kernel_rfl
theorem neq2T46 : abin Try.prog .neq 46 (.c .nilf) (.c .nilf) = some (.c (.b false)) := by kernel_rfl
theorem dT47 : dT Try.prog 47 = .other := by kernel_rfl
theorem sT47 : szT Try.prog 47 = 1 := by kernel_rfl
theorem bT47 : byT Try.prog 47 = 8 := by kernel_rfl
theorem zT47 : zT Try.prog 47 = some [.nilf] := by kernel_rfl
theorem eql1T47 {f : Nat} {c : List (Nat × Nat × Nat)}  : abin Try.prog .eql 47 (.c (.f f c)) (.c .nilf) = some (.c (.b false)) := by kernel_rfl
theorem eql2T47 : abin Try.prog .eql 47 (.c .nilf) (.c .nilf) = some (.c (.b true)) := by kernel_rfl
theorem neq1T47 {f : Nat} {c : List (Nat × Nat × Nat)}  : abin Try.prog .neq 47 (.c (.f f c)) (.c .nilf) = some (.c (.b true)) := by kernel_rfl
theorem neq2T47 : abin Try.prog .neq 47 (.c .nilf) (.c .nilf) = some (.c (.b false)) := by kernel_rfl
theorem dT48 : dT Try.prog 48 = .other := by kernel_rfl
theorem sT48 : szT Try.prog 48 = 1 := by kernel_rfl
theorem bT48 : byT Try.prog 48 = 8 := by kernel_rfl
theorem zT48 : zT Try.prog 48 = some [.nilf] := by kernel_rfl
theorem eql1T48 {f : Nat} {c : List (Nat × Nat × Nat)}  : abin Try.prog .eql 48 (.c (.f f c)) (.c .nilf) = some (.c (.b false)) := by kernel_rfl
theorem eql2T48 : abin Try.prog .eql 48 (.c .nilf) (.c .nilf) = some (.c (.b true)) := by kernel_rfl
theorem neq1T48 {f : Nat} {c : List (Nat × Nat × Nat)}  : abin Try.prog .neq 48 (.c (.f f c)) (.c .nilf) = some (.c (.b true)) := by kernel_rfl
theorem neq2T48 : abin Try.prog .neq 48 (.c .nilf) (.c .nilf) = some (.c (.b false)) := by kernel_rfl
theorem dT49 : dT Try.prog 49 = .other := by kernel_rfl
theorem sT49 : szT Try.prog 49 = 1 := by kernel_rfl
theorem bT49 : byT Try.prog 49 = 8 := by kernel_rfl
theorem zT49 : zT Try.prog 49 = some [.nilf] := by kernel_rfl
theorem eql1T49 {f : Nat} {c : List (Nat × Nat × Nat)}  : abin Try.prog .eql 49 (.c (.f f c)) (.c .nilf) = some (.c (.b false)) := by kernel_rfl
theorem eql2T49 : abin Try.prog .eql 49 (.c .nilf) (.c .nilf) = some (.c (.b true)) := by kernel_rfl
theorem neq1T49 {f : Nat} {c : List (Nat × Nat × Nat)}  : abin Try.prog .neq 49 (.c (.f f c)) (.c .nilf) = some (.c (.b true)) := by kernel_rfl
theorem neq2T49 : abin Try.prog .neq 49 (.c .nilf) (.c .nilf) = some (.c (.b false)) := by kernel_rfl
theorem dT50 : dT Try.prog 50 = .other := by kernel_rfl
theorem sT50 : szT Try.prog 50 = 1 := by kernel_rfl
theorem bT50 : byT Try.prog 50 = 8 := by kernel_rfl
theorem zT50 : zT Try.prog 50 = some [.nilf] := by kernel_rfl
theorem eql1T50 {f : Nat} {c : List (Nat × Nat × Nat)}  : abin Try.prog .eql 50 (.c (.f f c)) (.c .nilf) = some (.c (.b false)) := by kernel_rfl
theorem eql2T50 : abin Try.prog .eql 50 (.c .nilf) (.c .nilf) = some (.c (.b true)) := by kernel_rfl
theorem neq1T50 {f : Nat} {c : List (Nat × Nat × Nat)}  : abin Try.prog .neq 50 (.c (.f f c)) (.c .nilf) = some (.c (.b true)) := by kernel_rfl
theorem neq2T50 : abin Try.prog .neq 50 (.c .nilf) (.c .nilf) = some (.c (.b false)) := by kernel_rfl
theorem dT51 : dT Try.prog 51 = .sl 4 := by kernel_rfl
theorem sT51 : szT Try.prog 51 = 1 := by kernel_rfl
theorem bT51 : byT Try.prog 51 = 24 := by kernel_rfl
theorem zT51 : zT Try.prog 51 = some [.nils] := by kernel_rfl
theorem eql1T51 {a b c n : Nat}  : abin Try.prog .eql 51 (.c (.sl a b c n)) (.c .nils) = if n = 0 then some (.c .qq) else some (.c (.b false)) := by kernel_rfl
theorem eql2T51 : abin Try.prog .eql 51 (.c .nils) (.c .nils) = some (.c (.b true)) := by kernel_rfl
theorem neq1T51 {a b c n : Nat}  : abin Try.prog .neq 51 (.c (.sl a b c n)) (.c .nils) = if n = 0 then some (.c .qq) else some (.c (.b true)) := by kernel_rfl
theorem neq2T51 : abin Try.prog .neq 51 (.c .nils) (.c .nils) = some (.c (.b false)) := by kernel_rfl
theorem dT52 : dT Try.prog 52 = .arr 2 31 := by kernel_rfl
theorem sT52 : szT Try.prog 52 = 8 := by kernel_rfl
theorem bT52 : byT Try.prog 52 = 96 := by kernel_rfl
theorem zT52 : zT Try.prog 52 = some [.nils, .i 0, .b false, .i 0, .nils, .i 0, .b false, .i 0] := by kernel_rfl
theorem dT53 : dT Try.prog 53 = .other := by kernel_rfl
theorem sT53 : szT Try.prog 53 = 1 := by kernel_rfl
theorem bT53 : byT Try.prog 53 = 8 := by kernel_rfl
theorem zT53 : zT Try.prog 53 = some [.nilf] := by kernel_rfl
theorem eql1T53 {f : Nat} {c : List (Nat × Nat × Nat)}  : abin Try.prog .eql 53 (.c (.f f c)) (.c .nilf) = some (.c (.b false)) := by kernel_rfl
theorem eql2T53 : abin Try.prog .eql 53 (.c .nilf) (.c .nilf) = some (.c (.b true)) := by kernel_rfl
theorem neq1T53 {f : Nat} {c : List (Nat × Nat × Nat)}  : abin Try.prog .neq 53 (.c (.f f c)) (.c .nilf) = some (.c (.b true)) := by kernel_rfl
theorem neq2T53 : abin Try.prog .neq 53 (.c .nilf) (.c .nilf) = some (.c (.b false)) := by kernel_rfl
theorem dT54 : dT Try.prog 54 = .st [(0, 22), (1, 3)] := by kernel_rfl
theorem sT54 : szT Try.prog 54 = 2 := by kernel_rfl
theorem bT54 : byT Try.prog 54 = 32 := by kernel_rfl
theorem zT54 : zT Try.prog 54 = some [.nils, .i 0] := by kernel_rfl
theorem dT55 : dT Try.prog 55 = .st [(0, 22), (1, 3)] := by kernel_rfl
theorem sT55 : szT Try.prog 55 = 2 := by kernel_rfl
theorem bT55 : byT Try.prog 55 = 32 := by kernel_rfl
theorem zT55 : zT Try.prog 55 = some [.nils, .i 0] := by kernel_rfl
theorem dT56 : dT Try.prog 56 = .arr 2 55 := by kernel_rfl
theorem sT56 : szT Try.prog 56 = 4 := by kernel_rfl
theorem bT56 : byT Try.prog 56 = 64 := by kernel_rfl
theorem zT56 : zT Try.prog 56 = some [.nils, .i 0, .nils, .i 0] := by kernel_rfl
theorem dT57 : dT Try.prog 57 = .other := by kernel_rfl
theorem sT57 : szT Try.prog 57 = 1 := by kernel_rfl
theorem bT57 : byT Try.prog 57 = 8 := by kernel_rfl
theorem zT57 : zT Try.prog 57 = some [.nilf] := by kernel_rfl
theorem eql1T57 {f : Nat} {c : List (Nat × Nat × Nat)}  : abin Try.prog .eql 57 (.c (.f f c)) (.c .nilf) = some (.c (.b false)) := by kernel_rfl
theorem eql2T57 : abin Try.prog .eql 57 (.c .nilf) (.c .nilf) = some (.c (.b true)) := by kernel_rfl
theorem neq1T57 {f : Nat} {c : List (Nat × Nat × Nat)}  : abin Try.prog .neq 57 (.c (.f f c)) (.c .nilf) = some (.c (.b true)) := by kernel_rfl
theorem neq2T57 : abin Try.prog .neq 57 (.c .nilf) (.c .nilf) = some (.c (.b false)) := by kernel_rfl
theorem dT59 : dT Try.prog 59 = .other := by kernel_rfl
theorem sT59 : szT Try.prog 59 = 1 := by kernel_rfl
theorem bT59 : byT Try.prog 59 = 8 := by kernel_rfl
theorem zT59 : zT Try.prog 59 = some [.nilf] := by kernel_rfl
theorem eql1T59 {f : Nat} {c : List (Nat × Nat × Nat)}  : abin Try.prog .eql 59 (.c (.f f c)) (.c .nilf) = some (.c (.b false)) := by kernel_rfl
theorem eql2T59 : abin Try.prog .eql 59 (.c .nilf) (.c .nilf) = some (.c (.b true)) := by kernel_rfl
theorem neq1T59 {f : Nat} {c : List (Nat × Nat × Nat)}  : abin Try.prog .neq 59 (.c (.f f c)) (.c .nilf) = some (.c (.b true)) := by kernel_rfl
theorem neq2T59 : abin Try.prog .neq 59 (.c .nilf) (.c .nilf) = some (.c (.b false)) := by kernel_rfl
theorem dT60 : dT Try.prog 60 = .other := by kernel_rfl
theorem sT60 : szT Try.prog 60 = 1 := by kernel_rfl
theorem bT60 : byT Try.prog 60 = 8 := by kernel_rfl
theorem zT60 : zT Try.prog 60 = some [.nilf] := by kernel_rfl
theorem eql1T60 {f : Nat} {c : List (Nat × Nat × Nat)}  : abin Try.prog .eql 60 (.c (.f f c)) (.c .nilf) = some (.c (.b false)) := by kernel_rfl
theorem eql2T60 : abin Try.prog .eql 60 (.c .nilf) (.c .nilf) = some (.c (.b true)) := by kernel_rfl
theorem neq1T60 {f : Nat} {c : List (Nat × Nat × Nat)}  : abin Try.prog .neq 60 (.c (.f f c)) (.c .nilf) = some (.c (.b true)) := by kernel_rfl
theorem neq2T60 : abin Try.prog .neq 60 (.c .nilf) (.c .nilf) = some (.c (.b false)) := by kernel_rfl
theorem dT62 : dT Try.prog 62 = .other := by kernel_rfl
theorem sT62 : szT Try.prog 62 = 1 := by kernel_rfl
theorem bT62 : byT Try.prog 62 = 8 := by kernel_rfl
theorem zT62 : zT Try.prog 62 = some [.nilf] := by kernel_rfl
theorem eql1T62 {f : Nat} {c : List (Nat × Nat × Nat)}  : abin Try.prog .eql 62 (.c (.f f c)) (.c .nilf) = some (.c (.b false)) := by kernel_rfl
theorem eql2T62 : abin Try.prog .eql 62 (.c .nilf) (.c .nilf) = some (.c (.b true)) := by kernel_rfl
theorem neq1T62 {f : Nat} {c : List (Nat × Nat × Nat)}  : abin Try.prog .neq 62 (.c (.f f c)) (.c .nilf) = some (.c (.b true)) := by kernel_rfl
theorem neq2T62 : abin Try.prog .neq 62 (.c .nilf) (.c .nilf) = some (.c (.b false)) := by kernel_rfl
theorem mT63 : mT Try.prog 63 = some (3, 68) := by kernel_rfl
theorem kA3 : kA Try.prog 3 = some false := by kernel_rfl
theorem kOkI3 {x : Int} : kOk Try.prog 3 (.c (.i x)) = true := by unfold kOk; rw [kA3]
theorem zA68 : zA Try.prog 68 = some (.c (.nilp)) := by kernel_rfl
theorem dT64 : dT Try.prog 64 = .st [(0, 3), (1, 63)] := by kernel_rfl
theorem sT64 : szT Try.prog 64 = 2 := by kernel_rfl
theorem bT64 : byT Try.prog 64 = 16 := by kernel_rfl
theorem zT64 : zT Try.prog 64 = some [.i 0, .nilm] := by kernel_rfl
theorem dT65 : dT Try.prog 65 = .st [(0, 3), (1, 63)] := by kernel_rfl
theorem sT65 : szT Try.prog 65 = 2 := by kernel_rfl
theorem bT65 : byT Try.prog 65 = 16 := by kernel_rfl
theorem zT65 : zT Try.prog 65 = some [.i 0, .nilm] := by kernel_rfl
theorem dT66 : dT Try.prog 66 = .other := by kernel_rfl
theorem sT66 : szT Try.prog 66 = 1 := by kernel_rfl
theorem bT66 : byT Try.prog 66 = 8 := by kernel_rfl
theorem zT66 : zT Try.prog 66 = some [.nilf] := by kernel_rfl
theorem eql1T66 {f : Nat} {c : List (Nat × Nat × Nat)}  : abin Try.prog .eql 66 (.c (.f f c)) (.c .nilf) = some (.c (.b false)) := by kernel_rfl
theorem eql2T66 : abin Try.prog .eql 66 (.c .nilf) (.c .nilf) = some (.c (.b true)) := by kernel_rfl
theorem neq1T66 {f : Nat} {c : List (Nat × Nat × Nat)}  : abin Try.prog .neq 66 (.c (.f f c)) (.c .nilf) = some (.c (.b true)) := by kernel_rfl
theorem neq2T66 : abin Try.prog .neq 66 (.c .nilf) (.c .nilf) = some (.c (.b false)) := by kernel_rfl
theorem dT67 : dT Try.prog 67 = .arr 8 4 := by kernel_rfl
theorem sT67 : szT Try.prog 67 = 8 := by kernel_rfl
theorem bT67 : byT Try.prog 67 = 8 := by kernel_rfl
theorem zT67 : zT Try.prog 67 = some [.b false, .b false, .b false, .b false, .b false, .b false, .b false, .b false] := by kernel_rfl
theorem gT67 : tagsT Try.prog 12 67 = some [.q, .q, .q, .q, .q, .q, .q, .q] := by kernel_rfl
theorem eqT67 {a b : List Sc} : abin Try.prog .eql 67 (.g a) (.g b) = (csEq [.q, .q, .q, .q, .q, .q, .q, .q] a b).bind (eqU .eql) := ab_g_eql _ (by simp only [dT67, D.agg]) gT67
theorem neT67 {a b : List Sc} : abin Try.prog .neq 67 (.g a) (.g b) = (csEq [.q, .q, .q, .q, .q, .q, .q, .q] a b).bind (eqU .neq) := ab_g_neq _ (by simp only [dT67, D.agg]) gT67
theorem dT68 : dT Try.prog 68 = .ptr 70 := by kernel_rfl
theorem sT68 : szT Try.prog 68 = 1 := by kernel_rfl
theorem bT68 : byT Try.prog 68 = 8 := by kernel_rfl
theorem zT68 : zT Try.prog 68 = some [.nilp] := by kernel_rfl
theorem eql1T68 {a b c : Nat}  : abin Try.prog .eql 68 (.c (.p a b c)) (.c .nilp) = some (.c (.b false)) := by kernel_rfl
theorem eql2T68 : abin Try.prog .eql 68 (.c .nilp) (.c .nilp) = some (.c (.b true)) := by kernel_rfl
theorem neq1T68 {a b c : Nat}  : abin Try.prog .neq 68 (.c (.p a b c)) (.c .nilp) = some (.c (.b true)) := by kernel_rfl
theorem neq2T68 : abin Try.prog .neq 68 (.c .nilp) (.c .nilp) = some (.c (.b false)) := by kernel_rfl
theorem dT69 : dT Try.prog 69 = .st [(0, 3), (1, 22)] := by kernel_rfl
theorem sT69 : szT Try.prog 69 = 2 := by kernel_rfl
theorem bT69 : byT Try.prog 69 = 32 := by kernel_rfl
theorem zT69 : zT Try.prog 69 = some [.i 0, .nils] := by kernel_rfl
theorem dT70 : dT Try.prog 70 = .st [(0, 3), (1, 22)] := by kernel_rfl
theorem sT70 : szT Try.prog 70 = 2 := by kernel_rfl
theorem bT70 : byT Try.prog 70 = 32 := by kernel_rfl
theorem zT70 : zT Try.prog 70 = some [.i 0, .nils] := by kernel_rfl
theorem dT71 : dT Try.prog 71 = .other := by kernel_rfl
theorem sT71 : szT Try.prog 71 = 1 := by kernel_rfl
theorem bT71 : byT Try.prog 71 = 8 := by kernel_rfl
theorem zT71 : zT Try.prog 71 = some [.nilf] := by kernel_rfl
theorem eql1T71 {f : Nat} {c : List (Nat × Nat × Nat)}  : abin Try.prog .eql 71 (.c (.f f c)) (.c .nilf) = some (.c (.b false)) := by kernel_rfl
theorem eql2T71 : abin Try.prog .eql 71 (.c .nilf) (.c .nilf) = some (.c (.b true)) := by kernel_rfl
theorem neq1T71 {f : Nat} {c : List (Nat × Nat × Nat)}  : abin Try.prog .neq 71 (.c (.f f c)) (.c .nilf) = some (.c (.b true)) := by kernel_rfl
theorem neq2T71 : abin Try.prog .neq 71 (.c .nilf) (.c .nilf) = some (.c (.b false)) := by kernel_rfl
theorem dT72 : dT Try.prog 72 = .other := by kernel_rfl
theorem sT72 : szT Try.prog 72 = 1 := by kernel_rfl
theorem bT72 : byT Try.prog 72 = 8 := by kernel_rfl
theorem zT72 : zT Try.prog 72 = some [.nilf] := by kernel_rfl
theorem eql1T72 {f : Nat} {c : List (Nat × Nat × Nat)}  : abin Try.prog .eql 72 (.c (.f f c)) (.c .nilf) = some (.c (.b false)) := by kernel_rfl
theorem eql2T72 : abin Try.prog .eql 72 (.c .nilf) (.c .nilf) = some (.c (.b true)) := by kernel_rfl
theorem neq1T72 {f : Nat} {c : List (Nat × Nat × Nat)}  : abin Try.prog .neq 72 (.c (.f f c)) (.c .nilf) = some (.c (.b true)) := by kernel_rfl
theorem neq2T72 : abin Try.prog .neq 72 (.c .nilf) (.c .nilf) = some (.c (.b false)) := by kernel_rfl
theorem dT73 : dT Try.prog 73 = .st [(0, 3), (1, 22)] := by kernel_rfl
theorem sT73 : szT Try.prog 73 = 2 := by kernel_rfl
theorem bT73 : byT Try.prog 73 = 32 := by kernel_rfl
theorem zT73 : zT Try.prog 73 = some [.i 0, .nils] := by kernel_rfl
theorem dT74 : dT Try.prog 74 = .st [(0, 3), (1, 22)] := by kernel_rfl
theorem sT74 : szT Try.prog 74 = 2 := by kernel_rfl
theorem bT74 : byT Try.prog 74 = 32 := by kernel_rfl
theorem zT74 : zT Try.prog 74 = some [.i 0, .nils] := by kernel_rfl
theorem dT75 : dT Try.prog 75 = .other := by kernel_rfl
theorem sT75 : szT Try.prog 75 = 1 := by kernel_rfl
theorem bT75 : byT Try.prog 75 = 8 := by kernel_rfl
theorem zT75 : zT Try.prog 75 = some [.nilf] := by kernel_rfl
theorem eql1T75 {f : Nat} {c : List (Nat × Nat × Nat)}  : abin Try.prog .eql 75 (.c (.f f c)) (.c .nilf) = some (.c (.b false)) := by kernel_rfl
theorem eql2T75 : abin Try.prog .eql 75 (.c .nilf) (.c .nilf) = some (.c (.b true)) := by kernel_rfl
theorem neq1T75 {f : Nat} {c : List (Nat × Nat × Nat)}  : abin Try.prog .neq 75 (.c (.f f c)) (.c .nilf) = some (.c (.b true)) := by kernel_rfl
theorem neq2T75 : abin Try.prog .neq 75 (.c .nilf) (.c .nilf) = some (.c (.b false)) := by kernel_rfl
theorem dT76 : dT Try.prog 76 = .other := by kernel_rfl
theorem sT76 : szT Try.prog 76 = 1 := by kernel_rfl
theorem bT76 : byT Try.prog 76 = 8 := by kernel_rfl
theorem zT76 : zT Try.prog 76 = some [.nilf] := by kernel_rfl
theorem eql1T76 {f : Nat} {c : List (Nat × Nat × Nat)}  : abin Try.prog .eql 76 (.c (.f f c)) (.c .nilf) = some (.c (.b false)) := by kernel_rfl
theorem eql2T76 : abin Try.prog .eql 76 (.c .nilf) (.c .nilf) = some (.c (.b true)) := by kernel_rfl
theorem neq1T76 {f : Nat} {c : List (Nat × Nat × Nat)}  : abin Try.prog .neq 76 (.c (.f f c)) (.c .nilf) = some (.c (.b true)) := by kernel_rfl
theorem neq2T76 : abin Try.prog .neq 76 (.c .nilf) (.c .nilf) = some (.c (.b false)) := by kernel_rfl
theorem dT77 : dT Try.prog 77 = .other := by kernel_rfl
theorem sT77 : szT Try.prog 77 = 1 := by kernel_rfl
theorem bT77 : byT Try.prog 77 = 8 := by kernel_rfl
theorem zT77 : zT Try.prog 77 = some [.nilf] := by kernel_rfl
theorem eql1T77 {f : Nat} {c : List (Nat × Nat × Nat)}  : abin Try.prog .eql 77 (.c (.f f c)) (.c .nilf) = some (.c (.b false)) := by kernel_rfl
theorem eql2T77 : abin Try.prog .eql 77 (.c .nilf) (.c .nilf) = some (.c (.b true)) := by kernel_rfl
theorem neq1T77 {f : Nat} {c : List (Nat × Nat × Nat)}  : abin Try.prog .neq 77 (.c (.f f c)) (.c .nilf) = some (.c (.b true)) := by kernel_rfl
theorem neq2T77 : abin Try.prog .neq 77 (.c .nilf) (.c .nilf) = some (.c (.b false)) := by kernel_rfl
theorem dT78 : dT Try.prog 78 = .other := by kernel_rfl
theorem sT78 : szT Try.prog 78 = 1 := by kernel_rfl
theorem bT78 : byT Try.prog 78 = 8 := by kernel_rfl
theorem zT78 : zT Try.prog 78 = some [.nilf] := by kernel_rfl
theorem eql1T78 {f : Nat} {c : List (Nat × Nat × Nat)}  : abin Try.prog .eql 78 (.c (.f f c)) (.c .nilf) = some (.c (.b false)) := by kernel_rfl
theorem eql2T78 : abin Try.prog .eql 78 (.c .nilf) (.c .nilf) = some (.c (.b true)) := by kernel_rfl
theorem neq1T78 {f : Nat} {c : List (Nat × Nat × Nat)}  : abin Try.prog .neq 78 (.c (.f f c)) (.c .nilf) = some (.c (.b true)) := by kernel_rfl
theorem neq2T78 : abin Try.prog .neq 78 (.c .nilf) (.c .nilf) = some (.c (.b false)) := by kernel_rfl
theorem dT79 : dT Try.prog 79 = .other := by kernel_rfl
theorem sT79 : szT Try.prog 79 = 1 := by kernel_rfl
theorem bT79 : byT Try.prog 79 = 8 := by kernel_rfl
theorem zT79 : zT Try.prog 79 = some [.nilf] := by kernel_rfl
theorem eql1T79 {f : Nat} {c : List (Nat × Nat × Nat)}  : abin Try.prog .eql 79 (.c (.f f c)) (.c .nilf) = some (.c (.b false)) := by kernel_rfl
theorem eql2T79 : abin Try.prog .eql 79 (.c .nilf) (.c .nilf) = some (.c (.b true)) := by kernel_rfl
theorem neq1T79 {f : Nat} {c : List (Nat × Nat × Nat)}  : abin Try.prog .neq 79 (.c (.f f c)) (.c .nilf) = some (.c (.b true)) := by kernel_rfl
theorem neq2T79 : abin Try.prog .neq 79 (.c .nilf) (.c .nilf) = some (.c (.b false)) := by kernel_rfl
theorem dT80 : dT Try.prog 80 = .other := by kernel_rfl
theorem sT80 : szT Try.prog 80 = 1 := by kernel_rfl
theorem bT80 : byT Try.prog 80 = 8 := by kernel_rfl
theorem zT80 : zT Try.prog 80 = some [.nilf] := by kernel_rfl
theorem eql1T80 {f : Nat} {c : List (Nat × Nat × Nat)}  : abin Try.prog .eql 80 (.c (.f f c)) (.c .nilf) = some (.c (.b false)) := by kernel_rfl
theorem eql2T80 : abin Try.prog .eql 80 (.c .nilf) (.c .nilf) = some (.c (.b true)) := by kernel_rfl
theorem neq1T80 {f : Nat} {c : List (Nat × Nat × Nat)}  : abin Try.prog .neq 80 (.c (.f f c)) (.c .nilf) = some (.c (.b true)) := by kernel_rfl
theorem neq2T80 : abin Try.prog .neq 80 (.c .nilf) (.c .nilf) = some (.c (.b false)) := by kernel_rfl
theorem dT81 : dT Try.prog 81 = .int .u64 := by kernel_rfl
theorem sT81 : szT Try.prog 81 = 1 := by kernel_rfl
theorem bT81 : byT Try.prog 81 = 8 := by kernel_rfl
theorem zT81 : zT Try.prog 81 = some [.u 0#64] := by kernel_rfl
theorem dT82 : dT Try.prog 82 = .other := by kernel_rfl
theorem sT82 : szT Try.prog 82 = 1 := by kernel_rfl
theorem bT82 : byT Try.prog 82 = 8 := by kernel_rfl
theorem zT82 : zT Try.prog 82 = some [.nilf] := by kernel_rfl
theorem eql1T82 {f : Nat} {c : List (Nat × Nat × Nat)}  : abin Try.prog .eql 82 (.c (.f f c)) (.c .nilf) = some (.c (.b false)) := by kernel_rfl
theorem eql2T82 : abin Try.prog .eql 82 (.c .nilf) (.c .nilf) = some (.c (.b true)) := by kernel_rfl
theorem neq1T82 {f : Nat} {c : List (Nat × Nat × Nat)}  : abin Try.prog .neq 82 (.c (.f f c)) (.c .nilf) = some (.c (.b true)) := by kernel_rfl
theorem neq2T82 : abin Try.prog .neq 82 (.c .nilf) (.c .nilf) = some (.c (.b false)) := by kernel_rfl
theorem dT83 : dT Try.prog 83 = .other := by kernel_rfl
theorem sT83 : szT Try.prog 83 = 1 := by kernel_rfl
theorem bT83 : byT Try.prog 83 = 8 := by kernel_rfl
theorem zT83 : zT Try.prog 83 = some [.nilf] := by kernel_rfl
theorem eql1T83 {f : Nat} {c : List (Nat × Nat × Nat)}  : abin Try.prog .eql 83 (.c (.f f c)) (.c .nilf) = some (.c (.b false)) := by kernel_rfl
theorem eql2T83 : abin Try.prog .eql 83 (.c .nilf) (.c .nilf) = some (.c (.b true)) := by kernel_rfl
theorem neq1T83 {f : Nat} {c : List (Nat × Nat × Nat)}  : abin Try.prog .neq 83 (.c (.f f c)) (.c .nilf) = some (.c (.b true)) := by kernel_rfl
theorem neq2T83 : abin Try.prog .neq 83 (.c .nilf) (.c .nilf) = some (.c (.b false)) := by kernel_rfl
theorem dT84 : dT Try.prog 84 = .int .i64 := by kernel_rfl
theorem sT84 : szT Try.prog 84 = 1 := by kernel_rfl
theorem bT84 : byT Try.prog 84 = 8 := by kernel_rfl
theorem zT84 : zT Try.prog 84 = some [.i 0] := by kernel_rfl
theorem dT86 : dT Try.prog 86 = .other := by kernel_rfl
theorem sT86 : szT Try.prog 86 = 1 := by kernel_rfl
theorem bT86 : byT Try.prog 86 = 8 := by kernel_rfl
theorem zT86 : zT Try.prog 86 = some [.nilf] := by kernel_rfl
theorem eql1T86 {f : Nat} {c : List (Nat × Nat × Nat)}  : abin Try.prog .eql 86 (.c (.f f c)) (.c .nilf) = some (.c (.b false)) := by kernel_rfl
theorem eql2T86 : abin Try.prog .eql 86 (.c .nilf) (.c .nilf) = some (.c (.b true)) := by kernel_rfl
theorem neq1T86 {f : Nat} {c : List (Nat × Nat × Nat)}  : abin Try.prog .neq 86 (.c (.f f c)) (.c .nilf) = some (.c (.b true)) := by kernel_rfl
theorem neq2T86 : abin Try.prog .neq 86 (.c .nilf) (.c .nilf) = some (.c (.b false)) := by kernel_rfl
theorem dT87 : dT Try.prog 87 = .other := by kernel_rfl
theorem sT87 : szT Try.prog 87 = 1 := by kernel_rfl
theorem bT87 : byT Try.prog 87 = 8 := by kernel_rfl
theorem zT87 : zT Try.prog 87 = some [.nilf] := by kernel_rfl
theorem eql1T87 {f : Nat} {c : List (Nat × Nat × Nat)}  : abin Try.prog .eql 87 (.c (.f f c)) (.c .nilf) = some (.c (.b false)) := by kernel_rfl
theorem eql2T87 : abin Try.prog .eql 87 (.c .nilf) (.c .nilf) = some (.c (.b true)) := by kernel_rfl
theorem neq1T87 {f : Nat} {c : List (Nat × Nat × Nat)}  : abin Try.prog .neq 87 (.c (.f f c)) (.c .nilf) = some (.c (.b true)) := by kernel_rfl
theorem neq2T87 : abin Try.prog .neq 87 (.c .nilf) (.c .nilf) = some (.c (.b false)) := by kernel_rfl
theorem dT88 : dT Try.prog 88 = .other := by kernel_rfl
theorem sT88 : szT Try.prog 88 = 1 := by kernel_rfl
theorem bT88 : byT Try.prog 88 = 8 := by kernel_rfl
theorem zT88 : zT Try.prog 88 = some [.nilf] := by kernel_rfl
theorem eql1T88 {f : Nat} {c : List (Nat × Nat × Nat)}  : abin Try.prog .eql 88 (.c (.f f c)) (.c .nilf) = some (.c (.b false)) := by kernel_rfl
theorem eql2T88 : abin Try.prog .eql 88 (.c .nilf) (.c .nilf) = some (.c (.b true)) := by kernel_rfl
theorem neq1T88 {f : Nat} {c : List (Nat × Nat × Nat)}  : abin Try.prog .neq 88 (.c (.f f c)) (.c .nilf) = some (.c (.b true)) := by kernel_rfl
theorem neq2T88 : abin Try.prog .neq 88 (.c .nilf) (.c .nilf) = some (.c (.b false)) := by kernel_rfl
theorem dT89 : dT Try.prog 89 = .other := by kernel_rfl
theorem sT89 : szT Try.prog 89 = 1 := by kernel_rfl
theorem bT89 : byT Try.prog 89 = 8 := by kernel_rfl
theorem zT89 : zT Try.prog 89 = some [.nilf] := by kernel_rfl
theorem eql1T89 {f : Nat} {c : List (Nat × Nat × Nat)}  : abin Try.prog .eql 89 (.c (.f f c)) (.c .nilf) = some (.c (.b false)) := by kernel_rfl
theorem eql2T89 : abin Try.prog .eql 89 (.c .nilf) (.c .nilf) = some (.c (.b true)) := by kernel_rfl
theorem neq1T89 {f : Nat} {c : List (Nat × Nat × Nat)}  : abin Try.prog .neq 89 (.c (.f f c)) (.c .nilf) = some (.c (.b true)) := by kernel_rfl
theorem neq2T89 : abin Try.prog .neq 89 (.c .nilf) (.c .nilf) = some (.c (.b false)) := by kernel_rfl
theorem dT90 : dT Try.prog 90 = .other := by kernel_rfl
theorem sT90 : szT Try.prog 90 = 1 := by kernel_rfl
theorem bT90 : byT Try.prog 90 = 8 := by kernel_rfl
theorem zT90 : zT Try.prog 90 = some [.nilf] := by kernel_rfl
theorem eql1T90 {f : Nat} {c : List (Nat × Nat × Nat)}  : abin Try.prog .eql 90 (.c (.f f c)) (.c .nilf) = some (.c (.b false)) := by kernel_rfl
theorem eql2T90 : abin Try.prog .eql 90 (.c .nilf) (.c .nilf) = some (.c (.b true)) := by kernel_rfl
theorem neq1T90 {f : Nat} {c : List (Nat × Nat × Nat)}  : abin Try.prog .neq 90 (.c (.f f c)) (.c .nilf) = some (.c (.b true)) := by kernel_rfl
theorem neq2T90 : abin Try.prog .neq 90 (.c .nilf) (.c .nilf) = some (.c (.b false)) := by kernel_rfl
theorem dT91 : dT Try.prog 91 = .int .u32 := by kernel_rfl
theorem sT91 : szT Try.prog 91 = 1 := by kernel_rfl
theorem bT91 : byT Try.prog 91 = 4 := by kernel_rfl
theorem zT91 : zT Try.prog 91 = some [.k .u32 (0)] := by kernel_rfl
theorem dT92 : dT Try.prog 92 = .other := by kernel_rfl
theorem sT92 : szT Try.prog 92 = 1 := by kernel_rfl
theorem bT92 : byT Try.prog 92 = 8 := by kernel_rfl
theorem zT92 : zT Try.prog 92 = some [.nilf] := by kernel_rfl
theorem eql1T92 {f : Nat} {c : List (Nat × Nat × Nat)}  : abin Try.prog .eql 92 (.c (.f f c)) (.c .nilf) = some (.c (.b false)) := by kernel_rfl
theorem eql2T92 : abin Try.prog .eql 92 (.c .nilf) (.c .nilf) = some (.c (.b true)) := by kernel_rfl
theorem neq1T92 {f : Nat} {c : List (Nat × Nat × Nat)}  : abin Try.prog .neq 92 (.c (.f f c)) (.c .nilf) = some (.c (.b true)) := by kernel_rfl
theorem neq2T92 : abin Try.prog .neq 92 (.c .nilf) (.c .nilf) = some (.c (.b false)) := by kernel_rfl
theorem dT93 : dT Try.prog 93 = .int .u64 := by kernel_rfl
theorem sT93 : szT Try.prog 93 = 1 := by kernel_rfl
theorem bT93 : byT Try.prog 93 = 8 := by kernel_rfl
theorem zT93 : zT Try.prog 93 = some [.u 0#64] := by kernel_rfl
theorem dT94 : dT Try.prog 94 = .int .u64 := by kernel_rfl
theorem sT94 : szT Try.prog 94 = 1 := by kernel_rfl
theorem bT94 : byT Try.prog 94 = 8 := by kernel_rfl
theorem zT94 : zT Try.prog 94 = some [.u 0#64] := by kernel_rfl
theorem dT95 : dT Try.prog 95 = .other := by kernel_rfl
theorem sT95 : szT Try.prog 95 = 1 := by kernel_rfl
theorem bT95 : byT Try.prog 95 = 8 := by kernel_rfl
theorem zT95 : zT Try.prog 95 = some [.nilf] := by kernel_rfl
theorem eql1T95 {f : Nat} {c : List (Nat × Nat × Nat)}  : abin Try.prog .eql 95 (.c (.f f c)) (.c .nilf) = some (.c (.b false)) := by kernel_rfl
theorem eql2T95 : abin Try.prog .eql 95 (.c .nilf) (.c .nilf) = some (.c (.b true)) := by kernel_rfl
theorem neq1T95 {f : Nat} {c : List (Nat × Nat × Nat)}  : abin Try.prog .neq 95 (.c (.f f c)) (.c .nilf) = some (.c (.b true)) := by kernel_rfl
theorem neq2T95 : abin Try.prog .neq 95 (.c .nilf) (.c .nilf) = some (.c (.b false)) := by kernel_rfl
theorem dT96 : dT Try.prog 96 = .other := by kernel_rfl
theorem sT96 : szT Try.prog 96 = 1 := by kernel_rfl
theorem bT96 : byT Try.prog 96 = 8 := by kernel_rfl
theorem zT96 : zT Try.prog 96 = some [.nilf] := by kernel_rfl
theorem eql1T96 {f : Nat} {c : List (Nat × Nat × Nat)}  : abin Try.prog .eql 96 (.c (.f f c)) (.c .nilf) = some (.c (.b false)) := by kernel_rfl
theorem eql2T96 : abin Try.prog .eql 96 (.c .nilf) (.c .nilf) = some (.c (.b true)) := by kernel_rfl
theorem neq1T96 {f : Nat} {c : List (Nat × Nat × Nat)}  : abin Try.prog .neq 96 (.c (.f f c)) (.c .nilf) = some (.c (.b true)) := by kernel_rfl
theorem neq2T96 : abin Try.prog .neq 96 (.c .nilf) (.c .nilf) = some (.c (.b false)) := by kernel_rfl
theorem dT97 : dT Try.prog 97 = .other := by kernel_rfl
theorem sT97 : szT Try.prog 97 = 1 := by kernel_rfl
theorem bT97 : byT Try.prog 97 = 8 := by kernel_rfl
theorem zT97 : zT Try.prog 97 = some [.nilf] := by kernel_rfl
theorem eql1T97 {f : Nat} {c : List (Nat × Nat × Nat)}  : abin Try.prog .eql 97 (.c (.f f c)) (.c .nilf) = some (.c (.b false)) := by kernel_rfl
theorem eql2T97 : abin Try.prog .eql 97 (.c .nilf) (.c .nilf) = some (.c (.b true)) := by kernel_rfl
theorem neq1T97 {f : Nat} {c : List (Nat × Nat × Nat)}  : abin Try.prog .neq 97 (.c (.f f c)) (.c .nilf) = some (.c (.b true)) := by kernel_rfl
theorem neq2T97 : abin Try.prog .neq 97 (.c .nilf) (.c .nilf) = some (.c (.b false)) := by kernel_rfl
theorem dT98 : dT Try.prog 98 = .ptr 3 := by kernel_rfl
theorem sT98 : szT Try.prog 98 = 1 := by kernel_rfl
theorem bT98 : byT Try.prog 98 = 8 := by kernel_rfl
theorem zT98 : zT Try.prog 98 = some [.nilp] := by kernel_rfl
theorem eql1T98 {a b c : Nat}  : abin Try.prog .eql 98 (.c (.p a b c)) (.c .nilp) = some (.c (.b false)) := by kernel_rfl
theorem eql2T98 : abin Try.prog .eql 98 (.c .nilp) (.c .nilp) = some (.c (.b true)) := by kernel_rfl
theorem neq1T98 {a b c : Nat}  : abin Try.prog .neq 98 (.c (.p a b c)) (.c .nilp) = some (.c (.b true)) := by kernel_rfl
theorem neq2T98 : abin Try.prog .neq 98 (.c .nilp) (.c .nilp) = some (.c (.b false)) := by kernel_rfl
theorem dT99 : dT Try.prog 99 = .other := by kernel_rfl
theorem sT99 : szT Try.prog 99 = 1 := by kernel_rfl
theorem bT99 : byT Try.prog 99 = 8 := by kernel_rfl
theorem zT99 : zT Try.prog 99 = some [.nilf] := by kernel_rfl
theorem eql1T99 {f : Nat} {c : List (Nat × Nat × Nat)}  : abin Try.prog .eql 99 (.c (.f f c)) (.c .nilf) = some (.c (.b false)) := by kernel_rfl
theorem eql2T99 : abin Try.prog .eql 99 (.c .nilf) (.c .nilf) = some (.c (.b true)) := by kernel_rfl
theorem neq1T99 {f : Nat} {c : List (Nat × Nat × Nat)}  : abin Try.prog .neq 99 (.c (.f f c)) (.c .nilf) = some (.c (.b true)) := by kernel_rfl
theorem neq2T99 : abin Try.prog .neq 99 (.c .nilf) (.c .nilf) = some (.c (.b false)) := by kernel_rfl
theorem dT100 : dT Try.prog 100 = .ptr 94 := by kernel_rfl
theorem sT100 : szT Try.prog 100 = 1 := by kernel_rfl
theorem bT100 : byT Try.prog 100 = 8 := by kernel_rfl
theorem zT100 : zT Try.prog 100 = some [.nilp] := by kernel_rfl
theorem eql1T100 {a b c : Nat}  : abin Try.prog .eql 100 (.c (.p a b c)) (.c .nilp) = some (.c (.b false)) := by kernel_rfl
theorem eql2T100 : abin Try.prog .eql 100 (.c .nilp) (.c .nilp) = some (.c (.b true)) := by kernel_rfl
theorem neq1T100 {a b c : Nat}  : abin Try.prog .neq 100 (.c (.p a b c)) (.c .nilp) = some (.c (.b true)) := by kernel_rfl
theorem neq2T100 : abin Try.prog .neq 100 (.c .nilp) (.c .nilp) = some (.c (.b false)) := by kernel_rfl
theorem dT102 : dT Try.prog 102 = .other := by kernel_rfl
theorem sT102 : szT Try.prog 102 = 1 := by kernel_rfl
theorem bT102 : byT Try.prog 102 = 8 := by kernel_rfl
theorem zT102 : zT Try.prog 102 = some [.nilf] := by kernel_rfl
theorem eql1T102 {f : Nat} {c : List (Nat × Nat × Nat)}  : abin Try.prog .eql 102 (.c (.f f c)) (.c .nilf) = some (.c (.b false)) := by kernel_rfl
theorem eql2T102 : abin Try.prog .eql 102 (.c .nilf) (.c .nilf) = some (.c (.b true)) := by kernel_rfl
theorem neq1T102 {f : Nat} {c : List (Nat × Nat × Nat)}  : abin Try.prog .neq 102 (.c (.f f c)) (.c .nilf) = some (.c (.b true)) := by kernel_rfl
theorem neq2T102 : abin Try.prog .neq 102 (.c .nilf) (.c .nilf) = some (.c (.b false)) := by kernel_rfl
theorem dT103 : dT Try.prog 103 = .other := by kernel_rfl
theorem sT103 : szT Try.prog 103 = 1 := by kernel_rfl
theorem bT103 : byT Try.prog 103 = 8 := by kernel_rfl
theorem zT103 : zT Try.prog 103 = some [.nilf] := by kernel_rfl
theorem eql1T103 {f : Nat} {c : List (Nat × Nat × Nat)}  : abin Try.prog .eql 103 (.c (.f f c)) (.c .nilf) = some (.c (.b false)) := by kernel_rfl
theorem eql2T103 : abin Try.prog .eql 103 (.c .nilf) (.c .nilf) = some (.c (.b true)) := by kernel_rfl
theorem neq1T103 {f : Nat} {c : List (Nat × Nat × Nat)}  : abin Try.prog .neq 103 (.c (.f f c)) (.c .nilf) = some (.c (.b true)) := by kernel_rfl
theorem neq2T103 : abin Try.prog .neq 103 (.c .nilf) (.c .nilf) = some (.c (.b false)) := by kernel_rfl
theorem dT109 : dT Try.prog 109 = .other := by kernel_rfl
theorem sT109 : szT Try.prog 109 = 1 := by kernel_rfl
theorem bT109 : byT Try.prog 109 = 8 := by kernel_rfl
theorem zT109 : zT Try.prog 109 = some [.nilf] := by kernel_rfl
theorem eql1T109 {f : Nat} {c : List (Nat × Nat × Nat)}  : abin Try.prog .eql 109 (.c (.f f c)) (.c .nilf) = some (.c (.b false)) := by kernel_rfl
theorem eql2T109 : abin Try.prog .eql 109 (.c .nilf) (.c .nilf) = some (.c (.b true)) := by kernel_rfl
theorem neq1T109 {f : Nat} {c : List (Nat × Nat × Nat)}  : abin Try.prog .neq 109 (.c (.f f c)) (.c .nilf) = some (.c (.b true)) := by kernel_rfl
theorem neq2T109 : abin Try.prog .neq 109 (.c .nilf) (.c .nilf) = some (.c (.b false)) := by kernel_rfl
theorem dT112 : dT Try.prog 112 = .other := by kernel_rfl
theorem sT112 : szT Try.prog 112 = 1 := by kernel_rfl
theorem bT112 : byT Try.prog 112 = 8 := by kernel_rfl
theorem zT112 : zT Try.prog 112 = some [.nilf] := by kernel_rfl
theorem eql1T112 {f : Nat} {c : List (Nat × Nat × Nat)}  : abin Try.prog .eql 112 (.c (.f f c)) (.c .nilf) = some (.c (.b false)) := by kernel_rfl
theorem eql2T112 : abin Try.prog .eql 112 (.c .nilf) (.c .nilf) = some (.c (.b true)) := by kernel_rfl
theorem neq1T112 {f : Nat} {c : List (Nat × Nat × Nat)}  : abin Try.prog .neq 112 (.c (.f f c)) (.c .nilf) = some (.c (.b true)) := by kernel_rfl
theorem neq2T112 : abin Try.prog .neq 112 (.c .nilf) (.c .nilf) = some (.c (.b false)) := by kernel_rfl
theorem dT113 : dT Try.prog 113 = .ptr 5 := by kernel_rfl
theorem sT113 : szT Try.prog 113 = 1 := by kernel_rfl
theorem bT113 : byT Try.prog 113 = 8 := by kernel_rfl
theorem zT113 : zT Try.prog 113 = some [.nilp] := by kernel_rfl
theorem eql1T113 {a b c : Nat}  : abin Try.prog .eql 113 (.c (.p a b c)) (.c .nilp) = some (.c (.b false)) := by kernel_rfl
theorem eql2T113 : abin Try.prog .eql 113 (.c .nilp) (.c .nilp) = some (.c (.b true)) := by kernel_rfl
theorem neq1T113 {a b c : Nat}  : abin Try.prog .neq 113 (.c (.p a b c)) (.c .nilp) = some (.c (.b true)) := by kernel_rfl
theorem neq2T113 : abin Try.prog .neq 113 (.c .nilp) (.c .nilp) = some (.c (.b false)) := by kernel_rfl
theorem dT116 : dT Try.prog 116 = .st [(0, 12), (1, 12), (2, 91), (3, 110), (4, 5), (5, 5), (6, 111), (7, 112), (8, 113), (9, 114), (10, 115)] := by kernel_rfl
theorem sT116 : szT Try.prog 116 = 11 := by kernel_rfl
theorem bT116 : byT Try.prog 116 = 48 := by kernel_rfl
theorem zT116 : zT Try.prog 116 = some [.u 0#64, .u 0#64, .k .u32 (0), .k .u8 (0), .k .u8 (0), .k .u8 (0), .k .u8 (0), .nilf, .nilp, .k .i32 (0), .k .i32 (0)] := by kernel_rfl
attribute [go_sem] dT1 sT1 bT1 zT1 eql1T1 eql2T1 neq1T1 neq2T1 dT2 sT2 bT2 zT2 dT3 sT3 bT3 zT3 dT4 sT4 bT4 zT4 dT5 sT5 bT5 zT5 dT7 sT7 bT7 zT7 dT9 sT9 bT9 zT9 dT12 sT12 bT12 zT12 dT13 sT13 bT13 zT13 dT21 sT21 bT21 zT21 dT22 sT22 bT22 zT22 eql1T22 eql2T22 neq1T22 neq2T22 dT23 sT23 bT23 zT23 dT24 sT24 bT24 zT24 eql1T24 eql2T24 neq1T24 neq2T24 dT25 sT25 bT25 zT25 eql1T25 eql2T25 neq1T25 neq2T25 dT26 sT26 bT26 zT26 eql1T26 eql2T26 neq1T26 neq2T26 dT27 sT27 bT27 zT27 dT29 sT29 bT29 zT29 eql1T29 eql2T29 neq1T29 neq2T29 dT30 sT30 bT30 zT30 dT31 sT31 bT31 zT31 dT32 sT32 bT32 zT32 dT33 sT33 bT33 zT33 eql1T33 eql2T33 neq1T33 neq2T33 dT34 sT34 bT34 zT34 eql1T34 eql2T34 neq1T34 neq2T34 dT35 sT35 bT35 zT35 eql1T35 eql2T35 neq1T35 neq2T35 dT36 sT36 bT36 zT36 eql1T36 eql2T36 neq1T36 neq2T36 dT37 sT37 bT37 zT37 eql1T37 eql2T37 neq1T37 neq2T37 dT38 sT38 bT38 zT38 eql1T38 eql2T38 neq1T38 neq2T38 dT39 sT39 bT39 zT39 eql1T39 eql2T39 neq1T39 neq2T39 dT40 sT40 bT40 zT40 dT41 sT41 bT41 zT41 eqT41 neT41 dT42 sT42 bT42 zT42 eql1T42 eql2T42 neq1T42 neq2T42 dT43 sT43 bT43 zT43 eql1T43 eql2T43 neq1T43 neq2T43 dT44 sT44 bT44 zT44 eql1T44 eql2T44 neq1T44 neq2T44 dT45 sT45 bT45 zT45 eql1T45 eql2T45 neq1T45 neq2T45 dT46 sT46 bT46 zT46 eql1T46 eql2T46 neq1T46 neq2T46 dT47 sT47 bT47 zT47 eql1T47 eql2T47 neq1T47 neq2T47 dT48 sT48 bT48 zT48 eql1T48 eql2T48 neq1T48 neq2T48 dT49 sT49 bT49 zT49 eql1T49 eql2T49 neq1T49 neq2T49 dT50 sT50 bT50 zT50 eql1T50 eql2T50 neq1T50 neq2T50 dT51 sT51 bT51 zT51 eql1T51 eql2T51 neq1T51 neq2T51 dT52 sT52 bT52 zT52 dT53 sT53 bT53 zT53 eql1T53 eql2T53 neq1T53 neq2T53 dT54 sT54 bT54 zT54 dT55 sT55 bT55 zT55 dT56 sT56 bT56 zT56 dT57 sT57 bT57 zT57 eql1T57 eql2T57 neq1T57 neq2T57 dT59 sT59 bT59 zT59 eql1T59 eql2T59 neq1T59 neq2T59 dT60 sT60 bT60 zT60 eql1T60 eql2T60 neq1T60 neq2T60 dT62 sT62 bT62 zT62 eql1T62 eql2T62 neq1T62 neq2T62 mT63 kA3 kOkI3 zA68 dT64 sT64 bT64 zT64 dT65 sT65 bT65 zT65 dT66 sT66 bT66 zT66 eql1T66 eql2T66 neq1T66 neq2T66 dT67 sT67 bT67 zT67 eqT67 neT67 dT68 sT68 bT68 zT68 eql1T68 eql2T68 neq1T68 neq2T68 dT69 sT69 bT69 zT69 dT70 sT70 bT70 zT70 dT71 sT71 bT71 zT71 eql1T71 eql2T71 neq1T71 neq2T71 dT72 sT72 bT72 zT72 eql1T72 eql2T72 neq1T72 neq2T72 dT73 sT73 bT73 zT73 dT74 sT74 bT74 zT74 dT75 sT75 bT75 zT75 eql1T75 eql2T75 neq1T75 neq2T75 dT76 sT76 bT76 zT76 eql1T76 eql2T76 neq1T76 neq2T76 dT77 sT77 bT77 zT77 eql1T77 eql2T77 neq1T77 neq2T77 dT78 sT78 bT78 zT78 eql1T78 eql2T78 neq1T78 neq2T78 dT79 sT79 bT79 zT79 eql1T79 eql2T79 neq1T79 neq2T79 dT80 sT80 bT80 zT80 eql1T80 eql2T80 neq1T80 neq2T80 dT81 sT81 bT81 zT81 dT82 sT82 bT82 zT82 eql1T82 eql2T82 neq1T82 neq2T82 dT83 sT83 bT83 zT83 eql1T83 eql2T83 neq1T83 neq2T83 dT84 sT84 bT84 zT84 dT86 sT86 bT86 zT86 eql1T86 eql2T86 neq1T86 neq2T86 dT87 sT87 bT87 zT87 eql1T87 eql2T87 neq1T87 neq2T87 dT88 sT88 bT88 zT88 eql1T88 eql2T88 neq1T88 neq2T88 dT89 sT89 bT89 zT89 eql1T89 eql2T89 neq1T89 neq2T89 dT90 sT90 bT90 zT90 eql1T90 eql2T90 neq1T90 neq2T90 dT91 sT91 bT91 zT91 dT92 sT92 bT92 zT92 eql1T92 eql2T92 neq1T92 neq2T92 dT93 sT93 bT93 zT93 dT94 sT94 bT94 zT94 dT95 sT95 bT95 zT95 eql1T95 eql2T95 neq1T95 neq2T95 dT96 sT96 bT96 zT96 eql1T96 eql2T96 neq1T96 neq2T96 dT97 sT97 bT97 zT97 eql1T97 eql2T97 neq1T97 neq2T97 dT98 sT98 bT98 zT98 eql1T98 eql2T98 neq1T98 neq2T98 dT99 sT99 bT99 zT99 eql1T99 eql2T99 neq1T99 neq2T99 dT100 sT100 bT100 zT100 eql1T100 eql2T100 neq1T100 neq2T100 dT102 sT102 bT102 zT102 eql1T102 eql2T102 neq1T102 neq2T102 dT103 sT103 bT103 zT103 eql1T103 eql2T103 neq1T103 neq2T103 dT109 sT109 bT109 zT109 eql1T109 eql2T109 neq1T109 neq2T109 dT112 sT112 bT112 zT112 eql1T112 eql2T112 neq1T112 neq2T112 dT113 sT113 bT113 zT113 eql1T113 eql2T113 neq1T113 neq2T113 dT116 sT116 bT116 zT116
end Go.Proofs.Ythfccacopffkgaa
