/- The law MatchLinks: pairs in order, and classes of what is linked, are as the document says. No condition. -/
import Derived.Test.YthgjieigpfcekaaMtAlive
import Derived.Test.YthgjieigpfcekaaGrOpens
import Derived.Test.YthgjieigpfcekaaQMx8
namespace Go.Proofs.Ythgjieigpfcekaa.Pure
open Go.RowKit Go.Proofs.Ythgjieigpfcekaa.QM Go.Proofs.YthgjieigpfcekaaW.PrintWords Go.Proofs.YthgjieigpfcekaaW.PrintLast Go.Proofs.Ythgjieigpfcekaa.Gr
theorem MatchLinks (l : List PP) (n a b : Int) (hl : ∀ p ∈ l, Op.wf p.f0 ∧ Op.wf p.f1) (_ : Op.wf n) (ha : Op.wf a) (_ : Op.wf b) :
    ∃ k, oriellaw12_MatchLinks.f k l n a b = some true := by
  refine Ev.rounds ?_
  have hokL : okL l = true := by
    unfold okL
    rw [List.all_eq_true]
    intro p hp
    rw [Bool.and_eq_true]
    exact hl p hp
  have al : Ev (fun k => (oriellaw12_alive.f k).bind fun t => some t) true := Ev.bind (f := fun _ t => some t) alive12 (Ev.now _)
  have skip : Ev (fun k => oriellaw12_MatchLinks.j1 k l n a b true) true := Ev.step (f := fun k => (oriellaw12_alive.f k).bind fun t => some t) (fun k => by rw [oriellaw12_MatchLinks.j1, if_pos rfl]) al
  have main : l.length ≤ 60 → n ≤ 60 → Ev (fun k => oriellaw12_MatchLinks.j1 k l n a b false) true := by
    intro h1 h2
    refine Ev.step (f := fun k => ((match_Links.f k l).bind fun t161 => ((orielref12_Links.f k l).bind fun t164 => ((orielref12_Pairs.f k t161 t164).bind fun t167 => (if t167 = true then ((match_Class.f n l).bind fun t168 => ((orielref12_Class.f k n l).bind fun t171 => ((oriellaw01_Ints.f k t168 t171).bind fun t174 => (if t174 = true then ((match_Linked.f k l a b).bind fun t175 => ((orielref12_Linked.f k l a b).bind fun t176 => (if (t175 == t176) = true then ((oriellaw12_alive.f k).bind fun t177 => (some t177)) else (some false)))) else (some false))))) else (some false)))))) (fun k => by rw [oriellaw12_MatchLinks.j1, if_neg Bool.false_ne_true]) ?_
    refine Ev.bind (a := lkL l) (ev_all (fun k => by unfold match_Links.f; rw [if_pos (by omega)])) ?_
    refine Ev.bind (a := lkL l) (ev_all (fun k => by unfold orielref12_Links.f; rw [if_pos (by omega), refLk_eq])) ?_
    refine Ev.bind (pairs_ev (lkL l) (by have := lkL_len l; omega)) ?_
    simp only [if_true]
    obtain ⟨T, hT, e1, -⟩ := cls_both n l (by omega) 0
    simp only [e1, Option.bind_some]
    refine Ev.bind (a := T) (ev_all (fun k => by obtain ⟨T', -, f1, f2⟩ := cls_both n l (by omega) k; rw [e1] at f1; rw [f2, ← f1])) ?_
    refine Ev.bind (ints_ev T T (by omega)) ?_
    simp only [decide_true, if_true]
    refine Ev.bind (linked12_ev l a b (by omega) hokL ha) ?_
    refine Ev.bind (linked_ev l (by omega) a b) ?_
    simp only [beq_self_eq_true, if_true]
    exact al
  have after : Ev (fun k => oriellaw12_MatchLinks.j0 k l n a b false) true := by
    refine Ev.step (f := fun k => ((oriellaw12_bounded.f l).bind fun t159 => (if t159 = true then (oriellaw12_MatchLinks.j1 k l n a b (decide (n > 60))) else (oriellaw12_MatchLinks.j1 k l n a b true)))) (fun k => by rw [oriellaw12_MatchLinks.j0, if_neg Bool.false_ne_true]) ?_
    unfold oriellaw12_bounded.f
    simp only [Option.bind_some]
    by_cases h1 : l.length ≤ 60
    · simp only [decide_eq_true (show (l.length : Int) ≤ 60 by omega), if_true]
      by_cases h2 : n ≤ 60
      · rw [decide_eq_false (show ¬ n > 60 by omega)]
        exact main h1 h2
      · rw [decide_eq_true (show n > 60 by omega)]
        exact skip
    · simp only [decide_eq_false (show ¬ (l.length : Int) ≤ 60 by omega), if_neg Bool.false_ne_true]
      exact skip
  unfold oriellaw12_MatchLinks.f
  by_cases hb : n > 16777216
  · simp only [if_pos hb]
    unfold oriellaw12_bounded.f
    simp only [Option.bind_some]
    by_cases h1 : l.length ≤ 60
    · rw [decide_eq_true (show (l.length : Int) ≤ 60 by omega)]
      refine Ev.step (f := fun k => ((match_Class.f n l).bind fun t155 => (if (t155.length : Int) = 0 then ((oriellaw12_alive.f k).bind fun t158 => (some t158)) else (some false)))) (fun k => by rw [oriellaw12_MatchLinks.j0, if_pos rfl]) ?_
      have : match_Class.f n l = some [] := by unfold match_Class.f; rw [if_pos hb]
      simp only [this, Option.bind_some, List.length_nil, Int.natCast_zero, if_true]
      exact al
    · rw [decide_eq_false (show ¬ (l.length : Int) ≤ 60 by omega)]
      exact after
  · simp only [if_neg hb]
    exact after
end Go.Proofs.Ythgjieigpfcekaa.Pure
