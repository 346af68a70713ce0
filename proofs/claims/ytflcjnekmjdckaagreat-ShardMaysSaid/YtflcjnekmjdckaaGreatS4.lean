/- The laws SplitJoins and SplitBack. -/
import Derived.Test.YtflcjnekmjdckaaGreatS3
import Derived.Test.YtflcjnekmjdckaaGreatFr
namespace Go.Proofs.YtflcjnekmjdckaaGreat
open Go.Am
set_option linter.unusedSimpArgs false
set_option linter.unusedVariables false
noncomputable section

theorem slD_app {α : Type} {w : Nat} {dc : List Sc → Option α} {H X : AH} {x : Sc} {L : List α} (h : slD w dc H x = some L) (hb : x.bel H.length = true) : slD w dc (H ++ X) x = some L := by
  cases x with
  | sl id off v n =>
    have lid : id < H.length := by simpa [Sc.bel] using hb
    cases off with
    | zero => simp only [slD] at h ⊢; rw [hg_lt' lid]; exact h
    | succ o => simp [slD] at h
  | _ => first | exact h | simp [slD] at h
theorem subH_2 {H : AH} {a b : AObj} : subH (H ++ [a]) (H ++ [a, b]) := by
  have := subH_app (H ++ [a]) [b]
  rw [List.append_assoc] at this
  exact this
def s_sjoins (args : List AV) (H : AH) : Option AV :=
  match args with
  | [.c (.u v), .c x, .c y] =>
    match slD 3 dcP H x, slD 1 dcU H y with
    | some l, some r => if (∀ p ∈ l, inR p.s) ∧ l.length ≤ 9223372036854775807 ∧ r.length ≤ 9223372036854775807 then some (.c (.b true)) else none
    | _, _ => none
  | _ => none
theorem s_sjoins_inv {args : List AV} {H : AH} {v : AV} (h : s_sjoins args H = some v) : ∃ u x y l r, args = [.c (.u u), .c x, .c y] ∧ slD 3 dcP H x = some l ∧ slD 1 dcU H y = some r ∧ (∀ p ∈ l, inR p.s) ∧ l.length ≤ 9223372036854775807 ∧ r.length ≤ 9223372036854775807 ∧ v = .c (.b true) := by
  unfold s_sjoins at h
  split at h
  · split at h
    · split at h
      · rename_i h1 h2 h3
        simp only [Option.some.injEq] at h
        exact ⟨_, _, _, _, _, rfl, h1, h2, h3.1, h3.2.1, h3.2.2, h.symm⟩
      · simp at h
    · simp at h
  · simp at h

theorem sig_sjoins (avs : List AV) (H : AH) (h : SigA [.fl false [.n .u64], .sl [.n .u64, .n .i64, .n .i64], .sl [.n .u64]] avs H) : s_sjoins avs H = some (.c (.b true)) := by
  obtain ⟨s0, r0, rfl, k0, h1⟩ := sig_c h
  obtain ⟨u, rfl⟩ := fk_u k0
  obtain ⟨x, r1, rfl, h2, l, hl, hp, hn⟩ := sig_row (f := encP) (w := 3) (dc := dcP) (p := fun p => inR p.s) (fun cs hcs => by
    obtain ⟨a, _, rfl, ka, g⟩ := fit_cons hcs
    obtain ⟨b, _, rfl, kb, g⟩ := fit_cons g
    obtain ⟨c, _, rfl, kc, g⟩ := fit_cons g
    obtain rfl := fit_nil g
    obtain ⟨a, rfl⟩ := fk_u ka
    obtain ⟨b, rfl, _⟩ := fk_i kb
    obtain ⟨c, rfl, c1, c2⟩ := fk_i kc
    exact ⟨⟨a, b, c⟩, rfl, c1, c2⟩) encP_l dcP_e h1
  obtain ⟨y, r2, rfl, h3, r, hr, _, hm⟩ := sig_row (f := encU) (w := 1) (dc := dcU) (p := fun _ => True) (fun cs hcs => by
    obtain ⟨a, _, rfl, ka, g⟩ := fit_cons hcs
    obtain rfl := fit_nil g
    obtain ⟨a, rfl⟩ := fk_u ka
    exact ⟨a, rfl, trivial⟩) encU_l dcU_e h2
  obtain rfl := sig_nil h3
  simp only [s_sjoins, hl, hr]
  rw [if_pos ⟨hp, hn, hm⟩]

end
end Go.Proofs.YtflcjnekmjdckaaGreat
