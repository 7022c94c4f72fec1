/- The law ReportUnquotes: what is unquoted was a quoted text; what is none is refused. No condition. -/
import Derived.Test.YtnlbmnlmfbihlaaDoorRpUnq
import Derived.Test.YtnlbmnlmfbihlaaDoorQCx3
namespace Go.Proofs.YtnlbmnlmfbihlaaDoor.Pure
open Go.RowKit Go.Proofs.YtnlbmnlmfbihlaaDoor.QC Go.Proofs.YtnlbmnlmfbihlaaDoorW.PrintWords Go.Proofs.YtnlbmnlmfbihlaaDoorW.PrintLast Go.Proofs.YtnlbmnlmfbihlaaDoor.Rp
theorem ReportUnquotes : oriellaw25_ReportUnquotes.Pure := by
  intro s _
  refine Ev.rounds ?_
  unfold oriellaw25_ReportUnquotes.f
  by_cases h : (s.size : Int) > 1000
  · simp only [if_pos h]; exact alive_ev
  · simp only [if_neg h]
    rcases unquote_total s (by omega) with hu | ⟨t, ht, hu, he⟩
    · refine Ev.bind (f := fun k (bt144 : ByteArray × Bool) => (if bt144.2 = true then ((report_Quote.f bt144.1).bind fun t146 => (if t146.toList = s.toList then ((orielref25_Quote.f k bt144.1).bind fun t147 => (if t147.toList = s.toList then ((oriellaw25_alive.f k).bind fun t148 => (some t148)) else (some false))) else (some false))) else (if bt144.1.toList = ([] : List UInt8) then ((oriellaw25_alive.f k).bind fun t149 => (some t149)) else (some false)))) hu ?_
      have e : (⟨#[]⟩ : ByteArray).toList = ([] : List UInt8) := by rw [ByteArray.toList_eq]
      simp only [e, if_true, Bool.false_eq_true, if_false]
      exact alive_ev
    · refine Ev.bind (f := fun k (bt144 : ByteArray × Bool) => (if bt144.2 = true then ((report_Quote.f bt144.1).bind fun t146 => (if t146.toList = s.toList then ((orielref25_Quote.f k bt144.1).bind fun t147 => (if t147.toList = s.toList then ((oriellaw25_alive.f k).bind fun t148 => (some t148)) else (some false))) else (some false))) else (if bt144.1.toList = ([] : List UInt8) then ((oriellaw25_alive.f k).bind fun t149 => (some t149)) else (some false)))) hu ?_
      have hq : report_Quote.f t = some ⟨(quoteL t.data.toList).toArray⟩ := by unfold report_Quote.f; rw [if_pos (by omega)]
      have e : (⟨(quoteL t.data.toList).toArray⟩ : ByteArray).toList = s.toList := by rw [ByteArray.toList_eq, ByteArray.toList_eq]; exact he
      simp only [hq, Option.bind_some, e, if_true]
      refine Ev.bind (f := fun k (t147 : ByteArray) => (if t147.toList = s.toList then ((oriellaw25_alive.f k).bind fun t148 => (some t148)) else (some false))) (ref_ev t (by omega)) ?_
      simp only [e, if_true]
      exact alive_ev
end Go.Proofs.YtnlbmnlmfbihlaaDoor.Pure
