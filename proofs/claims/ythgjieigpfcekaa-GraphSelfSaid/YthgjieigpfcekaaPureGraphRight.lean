/- The law GraphRight: whether any graph is right, and who is of one family, is as the document says. No condition. -/
import Derived.Test.YthgjieigpfcekaaGrAlive
import Derived.Test.YthgjieigpfcekaaGrOpens
import Derived.Test.YthgjieigpfcekaaQGx11
namespace Go.Proofs.Ythgjieigpfcekaa.Gr
open Go.RowKit Go.Proofs.Ythgjieigpfcekaa.QG Go.Proofs.YthgjieigpfcekaaW.PrintWords Go.Proofs.YthgjieigpfcekaaW.PrintLast
abbrev GG := S51
theorem all_ok {l : List Int} (h : ∀ x ∈ l, Op.wf x) : l.all okI = true := List.all_eq_true.2 h
theorem all_okL {l : List PP} (h : ∀ p ∈ l, Op.wf p.f0 ∧ Op.wf p.f1) : okL l = true := by
  unfold okL
  rw [List.all_eq_true]
  intro p hp
  rw [Bool.and_eq_true]
  exact h p hp
theorem few_f (E : List Int) (L : List PP) (V : List Int) : oriellaw15_few.f E L V = some (decide (E.length ≤ 60) && (decide (V.length ≤ 60) && decide (L.length ≤ 40))) := by
  unfold oriellaw15_few.f
  by_cases h1 : E.length ≤ 60
  · rw [if_pos (by omega), decide_eq_true h1]
    by_cases h2 : V.length ≤ 60
    · rw [if_pos (by omega), decide_eq_true h2]
      congr 1
      simp only [Bool.true_and]
      exact decide_eq_decide.2 (by omega)
    · rw [if_neg (by omega), decide_eq_false h2]
      rfl
  · rw [if_neg (by omega), decide_eq_false h1]
    rfl
end Go.Proofs.Ythgjieigpfcekaa.Gr
namespace Go.Proofs.Ythgjieigpfcekaa.Pure
open Go.RowKit Go.Proofs.Ythgjieigpfcekaa.QG Go.Proofs.YthgjieigpfcekaaW.PrintWords Go.Proofs.YthgjieigpfcekaaW.PrintLast Go.Proofs.Ythgjieigpfcekaa.Gr
theorem GraphRight (g : GG) (l : List OO) (occ : Int) (hg : (∀ x ∈ g.f0, Op.wf x) ∧ (∀ p ∈ g.f1, Op.wf p.f0 ∧ Op.wf p.f1) ∧ ∀ x ∈ g.f2, Op.wf x) (_ : ∀ o ∈ l, Op.wf o.f0 ∧ Op.wf o.f1 ∧ Op.wf o.f2 ∧ Op.wf o.f3 ∧ True) (_ : Op.wf occ) :
    ∃ k, oriellaw15_GraphRight.f k g.f0 g.f1 g.f2 l occ = some true := by
  obtain ⟨E, L, V⟩ := g
  obtain ⟨h0, h1, _⟩ := hg
  dsimp only at h0 h1 ⊢
  refine Ev.rounds ?_
  have skip : Ev (fun k => oriellaw15_GraphRight.j0 k l occ true E L V) true := Ev.step (f := fun k => (oriellaw15_alive.f k).bind fun t => some t) (fun k => by rw [oriellaw15_GraphRight.j0, if_pos rfl]) (Ev.bind (f := fun _ t => some t) alive15 (Ev.now _))
  unfold oriellaw15_GraphRight.f
  simp only [few_f, Option.bind_some]
  by_cases hfew : E.length ≤ 60 ∧ V.length ≤ 60 ∧ L.length ≤ 40
  · obtain ⟨k0, _, k2⟩ := hfew
    simp only [decide_eq_true k0, decide_eq_true ‹V.length ≤ 60›, decide_eq_true k2, Bool.and_true, if_true]
    by_cases hl : (l.length : Int) > 60
    · rw [decide_eq_true hl]
      exact skip
    · rw [decide_eq_false hl]
      refine Ev.step (f := fun k => (graph_Right.f k E L V l).bind fun t182 => ((orielref15_Right.f E L V l).bind fun t183 => (if (t182 == t183) = true then ((graph_Family.f k E L V occ).bind fun t184 => ((orielref15_Family.f k E L V occ).bind fun t187 => ((oriellaw01_Ints.f k t184 t187).bind fun t190 => (if t190 = true then ((oriellaw15_alive.f k).bind fun t191 => (some t191)) else (some false))))) else (some false)))) (fun k => by rw [oriellaw15_GraphRight.j0, if_neg (by simp)]) ?_
      simp only [right_f _ E L V l (by omega), rright_f, Option.bind_some, beq_self_eq_true, if_true]
      refine Ev.bind (family_ev E L V (by omega) (by omega) (all_ok h0) (all_okL h1) occ) ?_
      refine Ev.bind (rfamily_ev E L V (by omega) (by omega) occ) ?_
      refine Ev.bind (ints_ev (famB E L occ) (famB E L occ) ?_) ?_
      · unfold famB
        split
        · unfold whereL
          refine Nat.le_trans (where_len _ _) ?_
          omega
        · simp
      · simp only [decide_true, if_true]
        exact Ev.bind (f := fun _ t => some t) alive15 (Ev.now _)
  · have hf : (decide (E.length ≤ 60) && (decide (V.length ≤ 60) && decide (L.length ≤ 40))) = false := by
      rw [← Bool.not_eq_true]
      simp only [Bool.and_eq_true, decide_eq_true_eq]
      exact hfew
    simp only [hf, if_neg Bool.false_ne_true]
    exact skip
end Go.Proofs.Ythgjieigpfcekaa.Pure
