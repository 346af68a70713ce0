/- The types of this translation, as the abstract machine reads them: closed facts. -/
import Derived.Test.YtkdfblgjhlbpdaaProg
import Derived.Test.YtkdfblgjhlbpdaaAw
namespace Go.Proofs.Ytkdfblgjhlbpdaa
open Go.Am
set_option maxRecDepth 100000
theorem hmix : Try.prog.follows .mixedOrders = true := by kernel_rfl
theorem dT1 : dT Try.prog 1 = .other := by kernel_rfl
theorem sT1 : szT Try.prog 1 = 1 := by kernel_rfl
theorem bT1 : byT Try.prog 1 = 8 := by kernel_rfl
theorem zT1 : zT Try.prog 1 = some [.nilf] := by kernel_rfl
theorem eql1T1 {f : Nat} {c : List (Nat × Nat × Nat)}  : abin Try.prog .eql 1 (.c (.f f c)) (.c .nilf) = some (.c (.b false)) := by kernel_rfl
theorem eql2T1 : abin Try.prog .eql 1 (.c .nilf) (.c .nilf) = some (.c (.b true)) := by kernel_rfl
theorem neq1T1 {f : Nat} {c : List (Nat × Nat × Nat)}  : abin Try.prog .neq 1 (.c (.f f c)) (.c .nilf) = some (.c (.b true)) := by kernel_rfl
theorem neq2T1 : abin Try.prog .neq 1 (.c .nilf) (.c .nilf) = some (.c (.b false)) := by kernel_rfl
theorem dT2 : dT Try.prog 2 = .int .i64 := by kernel_rfl
theorem sT2 : szT Try.prog 2 = 1 := by kernel_rfl
theorem bT2 : byT Try.prog 2 = 8 := by kernel_rfl
theorem zT2 : zT Try.prog 2 = some [.i 0] := by kernel_rfl
theorem dT3 : dT Try.prog 3 = .int .i64 := by kernel_rfl
theorem sT3 : szT Try.prog 3 = 1 := by kernel_rfl
theorem bT3 : byT Try.prog 3 = 8 := by kernel_rfl
theorem zT3 : zT Try.prog 3 = some [.i 0] := by kernel_rfl
theorem dT4 : dT Try.prog 4 = .bool := by kernel_rfl
theorem sT4 : szT Try.prog 4 = 1 := by kernel_rfl
theorem bT4 : byT Try.prog 4 = 1 := by kernel_rfl
theorem zT4 : zT Try.prog 4 = some [.b false] := by kernel_rfl
theorem dT5 : dT Try.prog 5 = .int .u8 := by kernel_rfl
theorem sT5 : szT Try.prog 5 = 1 := by kernel_rfl
theorem bT5 : byT Try.prog 5 = 1 := by kernel_rfl
theorem zT5 : zT Try.prog 5 = some [.k .u8 (0)] := by kernel_rfl
theorem dT7 : dT Try.prog 7 = .st [(0, 2), (1, 3), (2, 4), (3, 6)] := by kernel_rfl
theorem sT7 : szT Try.prog 7 = 4 := by kernel_rfl
theorem bT7 : byT Try.prog 7 = 24 := by kernel_rfl
theorem zT7 : zT Try.prog 7 = some [.i 0, .i 0, .b false, .k .u8 (0)] := by kernel_rfl
theorem dT9 : dT Try.prog 9 = .str := by kernel_rfl
theorem sT9 : szT Try.prog 9 = 1 := by kernel_rfl
theorem bT9 : byT Try.prog 9 = 16 := by kernel_rfl
theorem zT9 : zT Try.prog 9 = some [.s ByteArray.empty] := by kernel_rfl
theorem dT12 : dT Try.prog 12 = .int .u64 := by kernel_rfl
theorem sT12 : szT Try.prog 12 = 1 := by kernel_rfl
theorem bT12 : byT Try.prog 12 = 8 := by kernel_rfl
theorem zT12 : zT Try.prog 12 = some [.u 0#64] := by kernel_rfl
theorem dT13 : dT Try.prog 13 = .st [(0, 9), (1, 12)] := by kernel_rfl
theorem sT13 : szT Try.prog 13 = 2 := by kernel_rfl
theorem bT13 : byT Try.prog 13 = 24 := by kernel_rfl
theorem zT13 : zT Try.prog 13 = some [.s ByteArray.empty, .u 0#64] := by kernel_rfl
theorem dT21 : dT Try.prog 21 = .int .i32 := by kernel_rfl
theorem sT21 : szT Try.prog 21 = 1 := by kernel_rfl
theorem bT21 : byT Try.prog 21 = 4 := by kernel_rfl
theorem zT21 : zT Try.prog 21 = some [.k .i32 (0)] := by kernel_rfl
theorem dT22 : dT Try.prog 22 = .other := by kernel_rfl
theorem sT22 : szT Try.prog 22 = 1 := by kernel_rfl
theorem bT22 : byT Try.prog 22 = 8 := by kernel_rfl
theorem zT22 : zT Try.prog 22 = some [.nilf] := by kernel_rfl
theorem eql1T22 {f : Nat} {c : List (Nat × Nat × Nat)}  : abin Try.prog .eql 22 (.c (.f f c)) (.c .nilf) = some (.c (.b false)) := by kernel_rfl
theorem eql2T22 : abin Try.prog .eql 22 (.c .nilf) (.c .nilf) = some (.c (.b true)) := by kernel_rfl
theorem neq1T22 {f : Nat} {c : List (Nat × Nat × Nat)}  : abin Try.prog .neq 22 (.c (.f f c)) (.c .nilf) = some (.c (.b true)) := by kernel_rfl
theorem neq2T22 : abin Try.prog .neq 22 (.c .nilf) (.c .nilf) = some (.c (.b false)) := by kernel_rfl
theorem dT23 : dT Try.prog 23 = .sl 9 := by kernel_rfl
theorem sT23 : szT Try.prog 23 = 1 := by kernel_rfl
theorem bT23 : byT Try.prog 23 = 24 := by kernel_rfl
theorem zT23 : zT Try.prog 23 = some [.nils] := by kernel_rfl
theorem eql1T23 {a b c n : Nat}  : abin Try.prog .eql 23 (.c (.sl a b c n)) (.c .nils) = if n = 0 then some (.c .qq) else some (.c (.b false)) := by kernel_rfl
theorem eql2T23 : abin Try.prog .eql 23 (.c .nils) (.c .nils) = some (.c (.b true)) := by kernel_rfl
theorem neq1T23 {a b c n : Nat}  : abin Try.prog .neq 23 (.c (.sl a b c n)) (.c .nils) = if n = 0 then some (.c .qq) else some (.c (.b true)) := by kernel_rfl
theorem neq2T23 : abin Try.prog .neq 23 (.c .nils) (.c .nils) = some (.c (.b false)) := by kernel_rfl
theorem dT24 : dT Try.prog 24 = .other := by kernel_rfl
theorem sT24 : szT Try.prog 24 = 1 := by kernel_rfl
theorem bT24 : byT Try.prog 24 = 8 := by kernel_rfl
theorem zT24 : zT Try.prog 24 = some [.nilf] := by kernel_rfl
theorem eql1T24 {f : Nat} {c : List (Nat × Nat × Nat)}  : abin Try.prog .eql 24 (.c (.f f c)) (.c .nilf) = some (.c (.b false)) := by kernel_rfl
theorem eql2T24 : abin Try.prog .eql 24 (.c .nilf) (.c .nilf) = some (.c (.b true)) := by kernel_rfl
theorem neq1T24 {f : Nat} {c : List (Nat × Nat × Nat)}  : abin Try.prog .neq 24 (.c (.f f c)) (.c .nilf) = some (.c (.b true)) := by kernel_rfl
theorem neq2T24 : abin Try.prog .neq 24 (.c .nilf) (.c .nilf) = some (.c (.b false)) := by kernel_rfl
theorem dT25 : dT Try.prog 25 = .int .i64 := by kernel_rfl
theorem sT25 : szT Try.prog 25 = 1 := by kernel_rfl
theorem bT25 : byT Try.prog 25 = 8 := by kernel_rfl
theorem zT25 : zT Try.prog 25 = some [.i 0] := by kernel_rfl
theorem dT27 : dT Try.prog 27 = .other := by kernel_rfl
theorem sT27 : szT Try.prog 27 = 1 := by kernel_rfl
theorem bT27 : byT Try.prog 27 = 8 := by kernel_rfl
theorem zT27 : zT Try.prog 27 = some [.nilf] := by kernel_rfl
theorem eql1T27 {f : Nat} {c : List (Nat × Nat × Nat)}  : abin Try.prog .eql 27 (.c (.f f c)) (.c .nilf) = some (.c (.b false)) := by kernel_rfl
theorem eql2T27 : abin Try.prog .eql 27 (.c .nilf) (.c .nilf) = some (.c (.b true)) := by kernel_rfl
theorem neq1T27 {f : Nat} {c : List (Nat × Nat × Nat)}  : abin Try.prog .neq 27 (.c (.f f c)) (.c .nilf) = some (.c (.b true)) := by kernel_rfl
theorem neq2T27 : abin Try.prog .neq 27 (.c .nilf) (.c .nilf) = some (.c (.b false)) := by kernel_rfl
theorem dT28 : dT Try.prog 28 = .other := by kernel_rfl
theorem sT28 : szT Try.prog 28 = 1 := by kernel_rfl
theorem bT28 : byT Try.prog 28 = 8 := by kernel_rfl
theorem zT28 : zT Try.prog 28 = some [.nilf] := by kernel_rfl
theorem eql1T28 {f : Nat} {c : List (Nat × Nat × Nat)}  : abin Try.prog .eql 28 (.c (.f f c)) (.c .nilf) = some (.c (.b false)) := by kernel_rfl
theorem eql2T28 : abin Try.prog .eql 28 (.c .nilf) (.c .nilf) = some (.c (.b true)) := by kernel_rfl
theorem neq1T28 {f : Nat} {c : List (Nat × Nat × Nat)}  : abin Try.prog .neq 28 (.c (.f f c)) (.c .nilf) = some (.c (.b true)) := by kernel_rfl
theorem neq2T28 : abin Try.prog .neq 28 (.c .nilf) (.c .nilf) = some (.c (.b false)) := by kernel_rfl
theorem dT29 : dT Try.prog 29 = .other := by kernel_rfl
theorem sT29 : szT Try.prog 29 = 1 := by kernel_rfl
theorem bT29 : byT Try.prog 29 = 8 := by kernel_rfl
theorem zT29 : zT Try.prog 29 = some [.nilf] := by kernel_rfl
theorem eql1T29 {f : Nat} {c : List (Nat × Nat × Nat)}  : abin Try.prog .eql 29 (.c (.f f c)) (.c .nilf) = some (.c (.b false)) := by kernel_rfl
theorem eql2T29 : abin Try.prog .eql 29 (.c .nilf) (.c .nilf) = some (.c (.b true)) := by kernel_rfl
theorem neq1T29 {f : Nat} {c : List (Nat × Nat × Nat)}  : abin Try.prog .neq 29 (.c (.f f c)) (.c .nilf) = some (.c (.b true)) := by kernel_rfl
theorem neq2T29 : abin Try.prog .neq 29 (.c .nilf) (.c .nilf) = some (.c (.b false)) := by kernel_rfl
theorem dT30 : dT Try.prog 30 = .other := by kernel_rfl
theorem sT30 : szT Try.prog 30 = 1 := by kernel_rfl
theorem bT30 : byT Try.prog 30 = 8 := by kernel_rfl
theorem zT30 : zT Try.prog 30 = some [.nilf] := by kernel_rfl
theorem eql1T30 {f : Nat} {c : List (Nat × Nat × Nat)}  : abin Try.prog .eql 30 (.c (.f f c)) (.c .nilf) = some (.c (.b false)) := by kernel_rfl
theorem eql2T30 : abin Try.prog .eql 30 (.c .nilf) (.c .nilf) = some (.c (.b true)) := by kernel_rfl
theorem neq1T30 {f : Nat} {c : List (Nat × Nat × Nat)}  : abin Try.prog .neq 30 (.c (.f f c)) (.c .nilf) = some (.c (.b true)) := by kernel_rfl
theorem neq2T30 : abin Try.prog .neq 30 (.c .nilf) (.c .nilf) = some (.c (.b false)) := by kernel_rfl
theorem dT31 : dT Try.prog 31 = .other := by kernel_rfl
theorem sT31 : szT Try.prog 31 = 1 := by kernel_rfl
theorem bT31 : byT Try.prog 31 = 8 := by kernel_rfl
theorem zT31 : zT Try.prog 31 = some [.nilf] := by kernel_rfl
theorem eql1T31 {f : Nat} {c : List (Nat × Nat × Nat)}  : abin Try.prog .eql 31 (.c (.f f c)) (.c .nilf) = some (.c (.b false)) := by kernel_rfl
theorem eql2T31 : abin Try.prog .eql 31 (.c .nilf) (.c .nilf) = some (.c (.b true)) := by kernel_rfl
theorem neq1T31 {f : Nat} {c : List (Nat × Nat × Nat)}  : abin Try.prog .neq 31 (.c (.f f c)) (.c .nilf) = some (.c (.b true)) := by kernel_rfl
theorem neq2T31 : abin Try.prog .neq 31 (.c .nilf) (.c .nilf) = some (.c (.b false)) := by kernel_rfl
theorem dT32 : dT Try.prog 32 = .other := by kernel_rfl
theorem sT32 : szT Try.prog 32 = 1 := by kernel_rfl
theorem bT32 : byT Try.prog 32 = 8 := by kernel_rfl
theorem zT32 : zT Try.prog 32 = some [.nilf] := by kernel_rfl
theorem eql1T32 {f : Nat} {c : List (Nat × Nat × Nat)}  : abin Try.prog .eql 32 (.c (.f f c)) (.c .nilf) = some (.c (.b false)) := by kernel_rfl
theorem eql2T32 : abin Try.prog .eql 32 (.c .nilf) (.c .nilf) = some (.c (.b true)) := by kernel_rfl
theorem neq1T32 {f : Nat} {c : List (Nat × Nat × Nat)}  : abin Try.prog .neq 32 (.c (.f f c)) (.c .nilf) = some (.c (.b true)) := by kernel_rfl
theorem neq2T32 : abin Try.prog .neq 32 (.c .nilf) (.c .nilf) = some (.c (.b false)) := by kernel_rfl
theorem dT33 : dT Try.prog 33 = .other := by kernel_rfl
theorem sT33 : szT Try.prog 33 = 1 := by kernel_rfl
theorem bT33 : byT Try.prog 33 = 8 := by kernel_rfl
theorem zT33 : zT Try.prog 33 = some [.nilf] := by kernel_rfl
theorem eql1T33 {f : Nat} {c : List (Nat × Nat × Nat)}  : abin Try.prog .eql 33 (.c (.f f c)) (.c .nilf) = some (.c (.b false)) := by kernel_rfl
theorem eql2T33 : abin Try.prog .eql 33 (.c .nilf) (.c .nilf) = some (.c (.b true)) := by kernel_rfl
theorem neq1T33 {f : Nat} {c : List (Nat × Nat × Nat)}  : abin Try.prog .neq 33 (.c (.f f c)) (.c .nilf) = some (.c (.b true)) := by kernel_rfl
theorem neq2T33 : abin Try.prog .neq 33 (.c .nilf) (.c .nilf) = some (.c (.b false)) := by kernel_rfl
theorem dT34 : dT Try.prog 34 = .other := by kernel_rfl
theorem sT34 : szT Try.prog 34 = 1 := by kernel_rfl
theorem bT34 : byT Try.prog 34 = 8 := by kernel_rfl
theorem zT34 : zT Try.prog 34 = some [.nilf] := by kernel_rfl
theorem eql1T34 {f : Nat} {c : List (Nat × Nat × Nat)}  : abin Try.prog .eql 34 (.c (.f f c)) (.c .nilf) = some (.c (.b false)) := by kernel_rfl
theorem eql2T34 : abin Try.prog .eql 34 (.c .nilf) (.c .nilf) = some (.c (.b true)) := by kernel_rfl
theorem neq1T34 {f : Nat} {c : List (Nat × Nat × Nat)}  : abin Try.prog .neq 34 (.c (.f f c)) (.c .nilf) = some (.c (.b true)) := by kernel_rfl
theorem neq2T34 : abin Try.prog .neq 34 (.c .nilf) (.c .nilf) = some (.c (.b false)) := by kernel_rfl
theorem dT35 : dT Try.prog 35 = .other := by kernel_rfl
theorem sT35 : szT Try.prog 35 = 1 := by kernel_rfl
theorem bT35 : byT Try.prog 35 = 8 := by kernel_rfl
theorem zT35 : zT Try.prog 35 = some [.nilf] := by kernel_rfl
theorem eql1T35 {f : Nat} {c : List (Nat × Nat × Nat)}  : abin Try.prog .eql 35 (.c (.f f c)) (.c .nilf) = some (.c (.b false)) := by kernel_rfl
theorem eql2T35 : abin Try.prog .eql 35 (.c .nilf) (.c .nilf) = some (.c (.b true)) := by kernel_rfl
theorem neq1T35 {f : Nat} {c : List (Nat × Nat × Nat)}  : abin Try.prog .neq 35 (.c (.f f c)) (.c .nilf) = some (.c (.b true)) := by kernel_rfl
theorem neq2T35 : abin Try.prog .neq 35 (.c .nilf) (.c .nilf) = some (.c (.b false)) := by kernel_rfl
theorem dT36 : dT Try.prog 36 = .other := by kernel_rfl
theorem sT36 : szT Try.prog 36 = 1 := by kernel_rfl
theorem bT36 : byT Try.prog 36 = 8 := by kernel_rfl
theorem zT36 : zT Try.prog 36 = some [.nilf] := by kernel_rfl
theorem eql1T36 {f : Nat} {c : List (Nat × Nat × Nat)}  : abin Try.prog .eql 36 (.c (.f f c)) (.c .nilf) = some (.c (.b false)) := by kernel_rfl
theorem eql2T36 : abin Try.prog .eql 36 (.c .nilf) (.c .nilf) = some (.c (.b true)) := by kernel_rfl
theorem neq1T36 {f : Nat} {c : List (Nat × Nat × Nat)}  : abin Try.prog .neq 36 (.c (.f f c)) (.c .nilf) = some (.c (.b true)) := by kernel_rfl
theorem neq2T36 : abin Try.prog .neq 36 (.c .nilf) (.c .nilf) = some (.c (.b false)) := by kernel_rfl
theorem dT37 : dT Try.prog 37 = .other := by kernel_rfl
theorem sT37 : szT Try.prog 37 = 1 := by kernel_rfl
theorem bT37 : byT Try.prog 37 = 8 := by kernel_rfl
theorem zT37 : zT Try.prog 37 = some [.nilf] := by kernel_rfl
theorem eql1T37 {f : Nat} {c : List (Nat × Nat × Nat)}  : abin Try.prog .eql 37 (.c (.f f c)) (.c .nilf) = some (.c (.b false)) := by kernel_rfl
theorem eql2T37 : abin Try.prog .eql 37 (.c .nilf) (.c .nilf) = some (.c (.b true)) := by kernel_rfl
theorem neq1T37 {f : Nat} {c : List (Nat × Nat × Nat)}  : abin Try.prog .neq 37 (.c (.f f c)) (.c .nilf) = some (.c (.b true)) := by kernel_rfl
theorem neq2T37 : abin Try.prog .neq 37 (.c .nilf) (.c .nilf) = some (.c (.b false)) := by kernel_rfl
theorem dT38 : dT Try.prog 38 = .other := by kernel_rfl
theorem sT38 : szT Try.prog 38 = 1 := by kernel_rfl
theorem bT38 : byT Try.prog 38 = 8 := by kernel_rfl
theorem zT38 : zT Try.prog 38 = some [.nilf] := by kernel_rfl
theorem eql1T38 {f : Nat} {c : List (Nat × Nat × Nat)}  : abin Try.prog .eql 38 (.c (.f f c)) (.c .nilf) = some (.c (.b false)) := by kernel_rfl
theorem eql2T38 : abin Try.prog .eql 38 (.c .nilf) (.c .nilf) = some (.c (.b true)) := by kernel_rfl
theorem neq1T38 {f : Nat} {c : List (Nat × Nat × Nat)}  : abin Try.prog .neq 38 (.c (.f f c)) (.c .nilf) = some (.c (.b true)) := by kernel_rfl
theorem neq2T38 : abin Try.prog .neq 38 (.c .nilf) (.c .nilf) = some (.c (.b false)) := by kernel_rfl
theorem dT39 : dT Try.prog 39 = .other := by kernel_rfl
theorem sT39 : szT Try.prog 39 = 1 := by kernel_rfl
theorem bT39 : byT Try.prog 39 = 8 := by kernel_rfl
theorem zT39 : zT Try.prog 39 = some [.nilf] := by kernel_rfl
theorem eql1T39 {f : Nat} {c : List (Nat × Nat × Nat)}  : abin Try.prog .eql 39 (.c (.f f c)) (.c .nilf) = some (.c (.b false)) := by kernel_rfl
theorem eql2T39 : abin Try.prog .eql 39 (.c .nilf) (.c .nilf) = some (.c (.b true)) := by kernel_rfl
theorem neq1T39 {f : Nat} {c : List (Nat × Nat × Nat)}  : abin Try.prog .neq 39 (.c (.f f c)) (.c .nilf) = some (.c (.b true)) := by kernel_rfl
theorem neq2T39 : abin Try.prog .neq 39 (.c .nilf) (.c .nilf) = some (.c (.b false)) := by kernel_rfl
theorem dT40 : dT Try.prog 40 = .int .u64 := by kernel_rfl
theorem sT40 : szT Try.prog 40 = 1 := by kernel_rfl
theorem bT40 : byT Try.prog 40 = 8 := by kernel_rfl
theorem zT40 : zT Try.prog 40 = some [.u 0#64] := by kernel_rfl
theorem dT41 : dT Try.prog 41 = .other := by kernel_rfl
theorem sT41 : szT Try.prog 41 = 1 := by kernel_rfl
theorem bT41 : byT Try.prog 41 = 8 := by kernel_rfl
theorem zT41 : zT Try.prog 41 = some [.nilf] := by kernel_rfl
theorem eql1T41 {f : Nat} {c : List (Nat × Nat × Nat)}  : abin Try.prog .eql 41 (.c (.f f c)) (.c .nilf) = some (.c (.b false)) := by kernel_rfl
theorem eql2T41 : abin Try.prog .eql 41 (.c .nilf) (.c .nilf) = some (.c (.b true)) := by kernel_rfl
theorem neq1T41 {f : Nat} {c : List (Nat × Nat × Nat)}  : abin Try.prog .neq 41 (.c (.f f c)) (.c .nilf) = some (.c (.b true)) := by kernel_rfl
theorem neq2T41 : abin Try.prog .neq 41 (.c .nilf) (.c .nilf) = some (.c (.b false)) := by kernel_rfl
theorem dT47 : dT Try.prog 47 = .other := by kernel_rfl
theorem sT47 : szT Try.prog 47 = 1 := by kernel_rfl
theorem bT47 : byT Try.prog 47 = 8 := by kernel_rfl
theorem zT47 : zT Try.prog 47 = some [.nilf] := by kernel_rfl
theorem eql1T47 {f : Nat} {c : List (Nat × Nat × Nat)}  : abin Try.prog .eql 47 (.c (.f f c)) (.c .nilf) = some (.c (.b false)) := by kernel_rfl
theorem eql2T47 : abin Try.prog .eql 47 (.c .nilf) (.c .nilf) = some (.c (.b true)) := by kernel_rfl
theorem neq1T47 {f : Nat} {c : List (Nat × Nat × Nat)}  : abin Try.prog .neq 47 (.c (.f f c)) (.c .nilf) = some (.c (.b true)) := by kernel_rfl
theorem neq2T47 : abin Try.prog .neq 47 (.c .nilf) (.c .nilf) = some (.c (.b false)) := by kernel_rfl
theorem dT48 : dT Try.prog 48 = .int .u32 := by kernel_rfl
theorem sT48 : szT Try.prog 48 = 1 := by kernel_rfl
theorem bT48 : byT Try.prog 48 = 4 := by kernel_rfl
theorem zT48 : zT Try.prog 48 = some [.k .u32 (0)] := by kernel_rfl
theorem dT51 : dT Try.prog 51 = .other := by kernel_rfl
theorem sT51 : szT Try.prog 51 = 1 := by kernel_rfl
theorem bT51 : byT Try.prog 51 = 8 := by kernel_rfl
theorem zT51 : zT Try.prog 51 = some [.nilf] := by kernel_rfl
theorem eql1T51 {f : Nat} {c : List (Nat × Nat × Nat)}  : abin Try.prog .eql 51 (.c (.f f c)) (.c .nilf) = some (.c (.b false)) := by kernel_rfl
theorem eql2T51 : abin Try.prog .eql 51 (.c .nilf) (.c .nilf) = some (.c (.b true)) := by kernel_rfl
theorem neq1T51 {f : Nat} {c : List (Nat × Nat × Nat)}  : abin Try.prog .neq 51 (.c (.f f c)) (.c .nilf) = some (.c (.b true)) := by kernel_rfl
theorem neq2T51 : abin Try.prog .neq 51 (.c .nilf) (.c .nilf) = some (.c (.b false)) := by kernel_rfl
theorem dT52 : dT Try.prog 52 = .ptr 5 := by kernel_rfl
theorem sT52 : szT Try.prog 52 = 1 := by kernel_rfl
theorem bT52 : byT Try.prog 52 = 8 := by kernel_rfl
theorem zT52 : zT Try.prog 52 = some [.nilp] := by kernel_rfl
theorem eql1T52 {a b c : Nat}  : abin Try.prog .eql 52 (.c (.p a b c)) (.c .nilp) = some (.c (.b false)) := by kernel_rfl
theorem eql2T52 : abin Try.prog .eql 52 (.c .nilp) (.c .nilp) = some (.c (.b true)) := by kernel_rfl
theorem neq1T52 {a b c : Nat}  : abin Try.prog .neq 52 (.c (.p a b c)) (.c .nilp) = some (.c (.b true)) := by kernel_rfl
theorem neq2T52 : abin Try.prog .neq 52 (.c .nilp) (.c .nilp) = some (.c (.b false)) := by kernel_rfl
theorem dT55 : dT Try.prog 55 = .st [(0, 12), (1, 12), (2, 48), (3, 49), (4, 5), (5, 5), (6, 50), (7, 51), (8, 52), (9, 53), (10, 54)] := by kernel_rfl
theorem sT55 : szT Try.prog 55 = 11 := by kernel_rfl
theorem bT55 : byT Try.prog 55 = 48 := by kernel_rfl
theorem zT55 : zT Try.prog 55 = some [.u 0#64, .u 0#64, .k .u32 (0), .k .u8 (0), .k .u8 (0), .k .u8 (0), .k .u8 (0), .nilf, .nilp, .k .i32 (0), .k .i32 (0)] := by kernel_rfl
attribute [go_sem] dT1 sT1 bT1 zT1 eql1T1 eql2T1 neq1T1 neq2T1 dT2 sT2 bT2 zT2 dT3 sT3 bT3 zT3 dT4 sT4 bT4 zT4 dT5 sT5 bT5 zT5 dT7 sT7 bT7 zT7 dT9 sT9 bT9 zT9 dT12 sT12 bT12 zT12 dT13 sT13 bT13 zT13 dT21 sT21 bT21 zT21 dT22 sT22 bT22 zT22 eql1T22 eql2T22 neq1T22 neq2T22 dT23 sT23 bT23 zT23 eql1T23 eql2T23 neq1T23 neq2T23 dT24 sT24 bT24 zT24 eql1T24 eql2T24 neq1T24 neq2T24 dT25 sT25 bT25 zT25 dT27 sT27 bT27 zT27 eql1T27 eql2T27 neq1T27 neq2T27 dT28 sT28 bT28 zT28 eql1T28 eql2T28 neq1T28 neq2T28 dT29 sT29 bT29 zT29 eql1T29 eql2T29 neq1T29 neq2T29 dT30 sT30 bT30 zT30 eql1T30 eql2T30 neq1T30 neq2T30 dT31 sT31 bT31 zT31 eql1T31 eql2T31 neq1T31 neq2T31 dT32 sT32 bT32 zT32 eql1T32 eql2T32 neq1T32 neq2T32 dT33 sT33 bT33 zT33 eql1T33 eql2T33 neq1T33 neq2T33 dT34 sT34 bT34 zT34 eql1T34 eql2T34 neq1T34 neq2T34 dT35 sT35 bT35 zT35 eql1T35 eql2T35 neq1T35 neq2T35 dT36 sT36 bT36 zT36 eql1T36 eql2T36 neq1T36 neq2T36 dT37 sT37 bT37 zT37 eql1T37 eql2T37 neq1T37 neq2T37 dT38 sT38 bT38 zT38 eql1T38 eql2T38 neq1T38 neq2T38 dT39 sT39 bT39 zT39 eql1T39 eql2T39 neq1T39 neq2T39 dT40 sT40 bT40 zT40 dT41 sT41 bT41 zT41 eql1T41 eql2T41 neq1T41 neq2T41 dT47 sT47 bT47 zT47 eql1T47 eql2T47 neq1T47 neq2T47 dT48 sT48 bT48 zT48 dT51 sT51 bT51 zT51 eql1T51 eql2T51 neq1T51 neq2T51 dT52 sT52 bT52 zT52 eql1T52 eql2T52 neq1T52 neq2T52 dT55 sT55 bT55 zT55
end Go.Proofs.Ytkdfblgjhlbpdaa
