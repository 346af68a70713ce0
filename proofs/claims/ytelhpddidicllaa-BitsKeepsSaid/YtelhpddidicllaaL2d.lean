/- Layer 1's law of what is kept. -/
import Derived.Test.YtelhpddidicllaaL2a
import Derived.Test.YtelhpddidicllaaL2b
import Derived.Test.YtelhpddidicllaaL2c
namespace Go.Proofs.Ytelhpddidicllaa
open Go.Am
set_option linter.unusedSimpArgs false
set_option linter.unusedVariables false
noncomputable section

def s_bitsKeeps (args : List AV) : Option AV :=
  match args with
  | [.c (.u w), .c (.u n), .g [.i a, .i s]] => if inR a ∧ inR s then some (.c (.b true)) else none
  | _ => none
theorem s_bitsKeeps_eq {w n : BitVec 64} {a s : Int} : s_bitsKeeps [.c (.u w), .c (.u n), .g [.i a, .i s]] = if inR a ∧ inR s then some (.c (.b true)) else none := rfl
theorem keeps_of {args : List AV} {v : AV} (h : s_bitsKeeps args = some v) : ∃ w n a s, args = [.c (.u w), .c (.u n), .g [.i a, .i s]] ∧ inR a ∧ inR s ∧ v = .c (.b true) := by
  unfold s_bitsKeeps at h
  split at h
  · split at h <;> simp at h
    rename_i hc
    exact ⟨_, _, _, _, rfl, hc.1, hc.2, h.symm⟩
  · simp at h
theorem keeps_one {args : List AV} {v : AV} (h : s_bitsKeeps args = some v) : s_kA args = some v ∨ s_kB args = some v ∨ s_kC args = some v ∨ s_kD args = some v ∨ s_kE1 args = some v ∨ s_kE2 args = some v ∨ s_kE3 args = some v ∨ s_kF1 args = some v ∨ s_kF2 args = some v ∨ s_kF3 args = some v := by
  obtain ⟨w, n, a, s, rfl, ia, is, rfl⟩ := keeps_of h
  have hd : (0 ≤ a ∧ a < 64 ∧ 0 < s ∧ s ≤ 64) ∨ (0 ≤ a ∧ a < 64 ∧ 64 < s ∧ s < 100) ∨ (0 ≤ a ∧ a < 64 ∧ 100 ≤ s) ∨ (0 ≤ a ∧ a < 64 ∧ s ≤ 0) ∨ (64 ≤ a ∧ s ≤ 0) ∨ (64 ≤ a ∧ 0 < s ∧ s < 100) ∨ (64 ≤ a ∧ 100 ≤ s) ∨ (a < 0 ∧ s ≤ 0) ∨ (a < 0 ∧ 0 < s ∧ s < 100) ∨ (a < 0 ∧ 100 ≤ s) := by omega
  rcases hd with hc | hc | hc | hc | hc | hc | hc | hc | hc | hc
  · exact .inl (by rw [s_kA_eq]; exact if_pos ⟨ia, is, hc⟩)
  · exact .inr (.inl (by rw [s_kB_eq]; exact if_pos ⟨ia, is, hc⟩))
  · exact .inr (.inr (.inl (by rw [s_kC_eq]; exact if_pos ⟨ia, is, hc⟩)))
  · exact .inr (.inr (.inr (.inl (by rw [s_kD_eq]; exact if_pos ⟨ia, is, hc⟩))))
  · exact .inr (.inr (.inr (.inr (.inl (by rw [s_kE1_eq]; exact if_pos ⟨ia, is, hc⟩)))))
  · exact .inr (.inr (.inr (.inr (.inr (.inl (by rw [s_kE2_eq]; exact if_pos ⟨ia, is, hc⟩))))))
  · exact .inr (.inr (.inr (.inr (.inr (.inr (.inl (by rw [s_kE3_eq]; exact if_pos ⟨ia, is, hc⟩)))))))
  · exact .inr (.inr (.inr (.inr (.inr (.inr (.inr (.inl (by rw [s_kF1_eq]; exact if_pos ⟨ia, is, hc⟩))))))))
  · exact .inr (.inr (.inr (.inr (.inr (.inr (.inr (.inr (.inl (by rw [s_kF2_eq]; exact if_pos ⟨ia, is, hc⟩)))))))))
  · exact .inr (.inr (.inr (.inr (.inr (.inr (.inr (.inr (.inr ((by rw [s_kF3_eq]; exact if_pos ⟨ia, is, hc⟩))))))))))
theorem ok_bitsKeeps : PuOk Try.prog 6 s_bitsKeeps :=
  ⟨ok_kA.enters, fun args v hu ρ w cs hcs => by
    rcases keeps_one hu with h | h | h | h | h | h | h | h | h | h
    · exact ok_kA.pure args v h ρ w cs hcs
    · exact ok_kB.pure args v h ρ w cs hcs
    · exact ok_kC.pure args v h ρ w cs hcs
    · exact ok_kD.pure args v h ρ w cs hcs
    · exact ok_kE1.pure args v h ρ w cs hcs
    · exact ok_kE2.pure args v h ρ w cs hcs
    · exact ok_kE3.pure args v h ρ w cs hcs
    · exact ok_kF1.pure args v h ρ w cs hcs
    · exact ok_kF2.pure args v h ρ w cs hcs
    · exact ok_kF3.pure args v h ρ w cs hcs⟩

end
end Go.Proofs.Ytelhpddidicllaa
