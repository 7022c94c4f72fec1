/- The law ReportQuotes: how any text is quoted is as the document says; unquoted it is the same text. No condition. -/
import Derived.Test.YtnlbmnlmfbihlaaDoorRpUnq
import Derived.Test.YtnlbmnlmfbihlaaDoorQCx3
namespace Go.Proofs.YtnlbmnlmfbihlaaDoor.Pure
open Go.RowKit Go.Proofs.YtnlbmnlmfbihlaaDoor.QC Go.Proofs.YtnlbmnlmfbihlaaDoorW.PrintWords Go.Proofs.YtnlbmnlmfbihlaaDoorW.PrintLast Go.Proofs.YtnlbmnlmfbihlaaDoor.Rp
theorem ReportQuotes : oriellaw25_ReportQuotes.Pure := by
  intro s _
  refine Ev.rounds ?_
  unfold oriellaw25_ReportQuotes.f
  by_cases h : (s.size : Int) > 1000
  · simp only [if_pos h]; exact alive_ev
  · simp only [if_neg h]
    have hq : report_Quote.f s = some ⟨(quoteL s.data.toList).toArray⟩ := by unfold report_Quote.f; rw [if_pos (by omega)]
    rw [hq]
    simp only [Option.bind_some]
    refine Ev.bind (f := fun k (bt139 : ByteArray × Bool) => (orielref25_Quote.f k s).bind fun t141 => (if (⟨(quoteL s.data.toList).toArray⟩ : ByteArray).toList = t141.toList then (if bt139.1.toList = s.toList then (if bt139.2 = true then ((oriellaw25_alive.f k).bind fun t142 => (some t142)) else (some false)) else (some false)) else (some false))) (unquote_quote s (by omega)) ?_
    refine Ev.bind (f := fun k (t141 : ByteArray) => (if (⟨(quoteL s.data.toList).toArray⟩ : ByteArray).toList = t141.toList then (if s.toList = s.toList then (if true = true then ((oriellaw25_alive.f k).bind fun t142 => (some t142)) else (some false)) else (some false)) else (some false))) (ref_ev s (by omega)) ?_
    simp only [if_true]
    exact alive_ev
end Go.Proofs.YtnlbmnlmfbihlaaDoor.Pure
