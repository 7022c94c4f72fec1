/- The law MatchClasses: to be linked goes both ways, and on; classes are what is linked; Links of pairs link the same, and are in order. No condition. -/
import Derived.Test.YthgjieigpfcekaaGrOpens
import Derived.Test.YthgjieigpfcekaaQMx20
namespace Go.Proofs.Ythgjieigpfcekaa.Pure
open Go.RowKit Go.Proofs.Ythgjieigpfcekaa.QM Go.Proofs.YthgjieigpfcekaaW.PrintWords Go.Proofs.YthgjieigpfcekaaW.PrintLast Go.Proofs.Ythgjieigpfcekaa.Gr
theorem MatchClasses (l : List PP) (a b c : Int) (hl : ∀ p ∈ l, Op.wf p.f0 ∧ Op.wf p.f1) (_ : Op.wf a) (_ : Op.wf b) (_ : Op.wf c) :
    ∃ k, oriellaw12_MatchClasses.f k l a b c = some true := by
  obtain ⟨k, hk⟩ := Ev.rounds alive12
  have hokL : okL l = true := by
    unfold okL
    rw [List.all_eq_true]
    intro p hp
    rw [Bool.and_eq_true]
    exact hl p hp
  refine ⟨k, ?_⟩
  unfold oriellaw12_MatchClasses.f
  rw [if_pos ⟨hokL, hk⟩]
end Go.Proofs.Ythgjieigpfcekaa.Pure
