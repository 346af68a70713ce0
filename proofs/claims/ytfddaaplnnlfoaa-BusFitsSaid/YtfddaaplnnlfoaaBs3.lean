/- Layer 18: a bus: what is read and written: contracts. -/
import Derived.Test.YtfddaaplnnlfoaaBs2
namespace Go.Proofs.Ytfddaaplnnlfoaa
open Go.Am
set_option linter.unusedSimpArgs false
set_option linter.unusedVariables false
noncomputable section
variable {H : AH} {D : Bd}

def toBy (v : BitVec 64) : Int := IntKind.u8.wrap (v.toNat : Int)
def bRb (D : Bd) (p : Bp) : Bs := if p.d = 2 then { D.b with k := plR D.b.k (plAt D.b.k.n p.o p.s) } else D.b
def bRt (D : Bd) (p : Bp) : Pt := if p.d = 1 ∨ p.d = 2 then D.t else (readP D.t p.o).1
def bRv (D : Bd) (p : Bp) : BitVec 64 := if p.d = 1 then ckR D.b.c (ckAt D.b.c.n p.o p.s) p.s else if p.d = 2 then plV D.b.k (plAt D.b.k.n p.o p.s) else BitVec.ofInt 64 (readP D.t p.o).2.1
def bWb (D : Bd) (p : Bp) (v : BitVec 64) : Bs := if p.d = 1 then { D.b with c := ckW D.b.c (ckAt D.b.c.n p.o p.s) p.s v } else if p.d = 2 then { D.b with k := plW D.b.k (plAt D.b.k.n p.o p.s) v } else D.b
def bWt (D : Bd) (p : Bp) (v : BitVec 64) : Pt := if p.d = 1 ∨ p.d = 2 then D.t else (writeP D.t p.o (toBy v)).1
theorem bRb_ok (h : BsOk D.b) (p : Bp) : BsOk (bRb D p) := by
  unfold bRb
  split
  · exact h.pk (plR_ok h.k _) (plR_n _ _)
  · exact h
theorem bWb_ok (h : BsOk D.b) (p : Bp) (v : BitVec 64) : BsOk (bWb D p v) := by
  unfold bWb
  repeat' split
  · exact h.ck (ckW_ok h.c _ _ _) (ckW_n _ _ _ _)
  · exact h.pk (plW_ok h.k _ _) (plW_n _ _ _)
  · exact h
/-- what a step leaves -/
def BStep (H H1 : AH) (D : Bd) (b : Bs) (t : Pt) : Prop := ∃ x y, BI H1 { D with b := b, t := t, x := x, y := y } ∧ BK H H1 D { D with b := b, t := t, x := x, y := y }
def Few (t : Pt) : Prop := t.A.length ≤ 1000000 ∧ t.B.length ≤ 1000000
def q_bread (args : List AV) (H : AH) (v : AV) (H1 : AH) : Prop := ∀ D p, args = [.c (.p D.id 0 0), .g (spC p)] → BI H D → v = .c (.u (bRv D p)) ∧ BStep H H1 D (bRb D p) (bRt D p)
def s_bread : List AV → AH → Option (AV × AH) := frS Try.prog [(58, .fq s_cread), (59, .fp s_pread), (60, .fp s_uread)] 27 q_bread
set_option maxRecDepth 100000 in
set_option maxHeartbeats 2000000 in
theorem ok_bread : FpOk Try.prog 27 s_bread := frS_ok hmix (TabOk.cons (e := .fq s_cread) ok_cread (TabOk.cons (e := .fp s_pread) ok_pread (TabOk.cons (e := .fp s_uread) ok_uread TabOk.nil))) Try.func27 rfl Try.results27 Try.ntmps27 (by kernel_rfl) (by kernel_rfl)
theorem bread_post {p : Bp} (hB : BI H D) {v : AV} {H1 : AH} (h1 : v = .c (.u (bRv D p))) (h2 : BStep H H1 D (bRb D p) (bRt D p)) : q_bread [.c (.p D.id 0 0), .g (spC p)] H v H1 := by
  intro E q he hE
  simp only [List.cons.injEq, AV.c.injEq, AV.g.injEq, Sc.p.injEq, and_true] at he
  obtain ⟨e1, e2⟩ := he
  obtain rfl := spC_inj e2
  obtain rfl := hB.uniq hE e1
  exact ⟨h1, h2⟩
theorem s_bread_ex (hB : BI H D) (hf : Few D.t) (p : Bp) (hp : p.d = 1 ∨ p.d = 2 ∨ p.d = 3) : ∃ H1, s_bread [.c (.p D.id 0 0), .g (spC p)] H = some (.c (.u (bRv D p)), H1) ∧ H.length ≤ H1.length ∧ BStep H H1 D (bRb D p) (bRt D p) := by
  have : ∃ v H1, s_bread [.c (.p D.id 0 0), .g (spC p)] H = some (v, H1) ∧ H.length ≤ H1.length ∧ q_bread [.c (.p D.id 0 0), .g (spC p)] H v H1 := by
    obtain ⟨d, o, s⟩ := p
    simp only at hp
    have hA := hB.app [.own [.i d, .u o, .i s]]
    have ho := hA.ho
    have ho' := hB.ho
    have ll := hB.l
    have d0 : (busC D.pid D.b).getD 0 .any = .p D.pid 0 0 := rfl
    have lid := hB.lid
    have hoX : ∀ X, hg (H ++ X) D.id = .own (busC D.pid D.b) := fun X => (hB.app X).ho
    rcases hp with rfl | rfl | rfl
    · have cr := s_cread_eq hA.ck (off := o) (sz := s)
      unfold s_bread
      apply frS_ex (v := .c (.u (bRv D ⟨1, o, s⟩))) Try.func27 rfl Try.results27 Try.ntmps27 (by simp only [List.length_cons, List.length_nil]; decide)
      · intro _ _
        rw [show bRv D ⟨1, o, s⟩ = ckR D.b.c (ckAt D.b.c.n o s) s from rfl]
        (try simp (config := { maxSteps := 10000000 }) only [go_sem, seval, spC, hoX, ll, cr]; repeat (simp (disch := omega) only [w64_d, ipos, ineg, dpos, dneg]; try simp (config := { maxSteps := 10000000 }) only [go_sem, seval, spC, hoX, ll, cr]))
        (repeat' first | apply And.intro | (intro _; kernel_rfl) | kernel_rfl)
        exact fin_same
      · simp
      · exact bread_post hB rfl ⟨D.x, D.y, hB.app _, BK.app⟩
    · have pr := s_pread_eq hA.pk (off := o) (sz := s)
      rw [hA.pkS] at pr
      have hS := hA.set (b := bRb D ⟨2, o, s⟩) (bRb_ok hB.ok _)
      have hK := hA.setK (bRb D ⟨2, o, s⟩)
      have e : bRb D ⟨2, o, s⟩ = { D.b with k := plR D.b.k (plAt D.b.k.n o s) } := rfl
      rw [← e] at pr
      unfold s_bread
      apply frS_ex (v := .c (.u (bRv D ⟨2, o, s⟩))) Try.func27 rfl Try.results27 Try.ntmps27 (by simp only [List.length_cons, List.length_nil]; decide)
      · intro _ _
        rw [show bRv D ⟨2, o, s⟩ = plV D.b.k (plAt D.b.k.n o s) from rfl]
        (try simp (config := { maxSteps := 10000000 }) only [go_sem, seval, spC, hoX, ll, pr]; repeat (simp (disch := omega) only [w64_d, ipos, ineg, dpos, dneg]; try simp (config := { maxSteps := 10000000 }) only [go_sem, seval, spC, hoX, ll, pr]))
        (repeat' first | apply And.intro | (intro _; kernel_rfl) | kernel_rfl)
        exact fin_same
      · simp
      · exact bread_post hB rfl ⟨D.x, D.y, hS, hK.cut⟩
    · obtain ⟨K', x', h1, h2, h3⟩ := read_ok hA.pi o hf.1
      obtain ⟨g1, g2⟩ := hA.port h2 h3
      unfold s_bread
      apply frS_ex (v := .c (.u (bRv D ⟨3, o, s⟩))) Try.func27 rfl Try.results27 Try.ntmps27 (by simp only [List.length_cons, List.length_nil]; decide)
      · intro _ _
        rw [show bRv D ⟨3, o, s⟩ = BitVec.ofInt 64 (readP D.t o).2.1 from rfl]
        (try simp (config := { maxSteps := 10000000 }) only [go_sem, seval, spC, hoX, ll, d0, h1]; repeat (simp (disch := omega) only [w64_d, ipos, ineg, dpos, dneg]; try simp (config := { maxSteps := 10000000 }) only [go_sem, seval, spC, hoX, ll, d0, h1]))
        (repeat' first | apply And.intro | (intro _; kernel_rfl) | kernel_rfl)
        exact fin_same
      · have := g2.len; simp at this; omega
      · exact bread_post hB rfl ⟨x', D.y, g1, g2.cut⟩
  obtain ⟨v, H1, h1, h2, h3⟩ := this
  obtain ⟨rfl, h4⟩ := h3 D p rfl hB
  exact ⟨H1, h1, h2, h4⟩
def q_bwrite (args : List AV) (H : AH) (v : AV) (H1 : AH) : Prop := ∀ D p w, args = [.c (.p D.id 0 0), .g (spC p), .c (.u w)] → BI H D → v = .t [] ∧ BStep H H1 D (bWb D p w) (bWt D p w)
def s_bwrite : List AV → AH → Option (AV × AH) := frS Try.prog [(64, .fp s_cwrite), (65, .fp s_pwrite), (66, .fp s_uwrite)] 29 q_bwrite
set_option maxRecDepth 100000 in
set_option maxHeartbeats 2000000 in
theorem ok_bwrite : FpOk Try.prog 29 s_bwrite := frS_ok hmix (TabOk.cons (e := .fp s_cwrite) ok_cwrite (TabOk.cons (e := .fp s_pwrite) ok_pwrite (TabOk.cons (e := .fp s_uwrite) ok_uwrite TabOk.nil))) Try.func29 rfl Try.results29 Try.ntmps29 (by kernel_rfl) (by kernel_rfl)
theorem bwrite_post {p : Bp} {w : BitVec 64} (hB : BI H D) {v : AV} {H1 : AH} (h1 : v = .t []) (h2 : BStep H H1 D (bWb D p w) (bWt D p w)) : q_bwrite [.c (.p D.id 0 0), .g (spC p), .c (.u w)] H v H1 := by
  intro E q w' he hE
  simp only [List.cons.injEq, AV.c.injEq, AV.g.injEq, Sc.p.injEq, Sc.u.injEq, and_true] at he
  obtain ⟨e1, e2, rfl⟩ := he
  obtain rfl := spC_inj e2
  obtain rfl := hB.uniq hE e1
  exact ⟨h1, h2⟩
theorem s_bwrite_ex (hB : BI H D) (hf : Few D.t) (p : Bp) (hp : p.d = 1 ∨ p.d = 2 ∨ p.d = 3) (w : BitVec 64) : ∃ H1, s_bwrite [.c (.p D.id 0 0), .g (spC p), .c (.u w)] H = some (.t [], H1) ∧ H.length ≤ H1.length ∧ BStep H H1 D (bWb D p w) (bWt D p w) := by
  have : ∃ v H1, s_bwrite [.c (.p D.id 0 0), .g (spC p), .c (.u w)] H = some (v, H1) ∧ H.length ≤ H1.length ∧ q_bwrite [.c (.p D.id 0 0), .g (spC p), .c (.u w)] H v H1 := by
    obtain ⟨d, o, s⟩ := p
    simp only at hp
    have hA := hB.app [.own [.i d, .u o, .i s]]
    have ll := hB.l
    have d0 : (busC D.pid D.b).getD 0 .any = .p D.pid 0 0 := rfl
    have hoX : ∀ X, hg (H ++ X) D.id = .own (busC D.pid D.b) := fun X => (hB.app X).ho
    rcases hp with rfl | rfl | rfl
    · have cw := s_cwrite_eq hA.ck (off := o) (sz := s) (v := w)
      rw [hA.ckS] at cw
      have e : bWb D ⟨1, o, s⟩ w = { D.b with c := ckW D.b.c (ckAt D.b.c.n o s) s w } := rfl
      rw [← e] at cw
      unfold s_bwrite
      apply frS_ex (v := .t []) Try.func29 rfl Try.results29 Try.ntmps29 (by simp only [List.length_cons, List.length_nil]; decide)
      · intro _ _
        (try simp (config := { maxSteps := 10000000 }) only [go_sem, seval, spC, hoX, ll, cw]; repeat (simp (disch := omega) only [w64_d, ipos, ineg, dpos, dneg]; try simp (config := { maxSteps := 10000000 }) only [go_sem, seval, spC, hoX, ll, cw]))
        (repeat' first | apply And.intro | (intro _; kernel_rfl) | kernel_rfl)
        exact fin_same
      · simp
      · exact bwrite_post hB rfl ⟨D.x, D.y, hA.set (bWb_ok hB.ok _ _), (hA.setK _).cut⟩
    · have pw := s_pwrite_eq hA.pk (off := o) (sz := s) (v := w)
      rw [hA.pkS] at pw
      have e : bWb D ⟨2, o, s⟩ w = { D.b with k := plW D.b.k (plAt D.b.k.n o s) w } := rfl
      rw [← e] at pw
      unfold s_bwrite
      apply frS_ex (v := .t []) Try.func29 rfl Try.results29 Try.ntmps29 (by simp only [List.length_cons, List.length_nil]; decide)
      · intro _ _
        (try simp (config := { maxSteps := 10000000 }) only [go_sem, seval, spC, hoX, ll, pw]; repeat (simp (disch := omega) only [w64_d, ipos, ineg, dpos, dneg]; try simp (config := { maxSteps := 10000000 }) only [go_sem, seval, spC, hoX, ll, pw]))
        (repeat' first | apply And.intro | (intro _; kernel_rfl) | kernel_rfl)
        exact fin_same
      · simp
      · exact bwrite_post hB rfl ⟨D.x, D.y, hA.set (bWb_ok hB.ok _ _), (hA.setK _).cut⟩
    · obtain ⟨K', x', y', h1, h2, h3⟩ := write_ok hA.pi o (toBy w) hf.1 hf.2
      obtain ⟨g1, g2⟩ := hA.port h2 h3
      have tb : IntKind.u8.wrap (w.toNat : Int) = toBy w := rfl
      unfold s_bwrite
      apply frS_ex (v := .t []) Try.func29 rfl Try.results29 Try.ntmps29 (by simp only [List.length_cons, List.length_nil]; decide)
      · intro _ _
        (try simp (config := { maxSteps := 10000000 }) only [go_sem, seval, spC, hoX, ll, d0, tb, h1]; repeat (simp (disch := omega) only [w64_d, ipos, ineg, dpos, dneg]; try simp (config := { maxSteps := 10000000 }) only [go_sem, seval, spC, hoX, ll, d0, tb, h1]))
        (repeat' first | apply And.intro | (intro _; kernel_rfl) | kernel_rfl)
        exact fin_same
      · have := g2.len; simp at this; omega
      · exact bwrite_post hB rfl ⟨x', y', g1, g2.cut⟩
  obtain ⟨v, H1, h1, h2, h3⟩ := this
  obtain ⟨rfl, h4⟩ := h3 D p w rfl hB
  exact ⟨H1, h1, h2, h4⟩
end
end Go.Proofs.Ytfddaaplnnlfoaa
