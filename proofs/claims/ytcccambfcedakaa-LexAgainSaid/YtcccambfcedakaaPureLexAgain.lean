/- The lexer's law LexAgain: read anew, a token's own text is that one token. No condition. -/
import Derived.Test.YtcccambfcedakaaLxAlive
import Derived.Test.YtcccambfcedakaaLxFirst
import Derived.Test.YtcccambfcedakaaLxAgain
import Derived.Test.YtcccambfcedakaaQAx7
namespace Go.Proofs.Ytcccambfcedakaa.Pure
open Go.RowKit Go.Proofs.Ytcccambfcedakaa.QA Go.Proofs.YtcccambfcedakaaW.PrintWords Go.Proofs.YtcccambfcedakaaW.PrintLast Oriel.Lx Go.Proofs.Ytcccambfcedakaa.Lx
theorem again_ev (s : ByteArray) (hs : s.size ≤ 500) (ts : List S26) : ∀ (d n i : Nat), s.size - n = d → n ≤ s.size → ts.drop i = places n (scan (s.data.toList.drop n)) →
    Ev (fun k => oriellaw05_LexAgain.l k s ts i) true := by
  intro d
  induction d using Nat.strongRecOn with
  | _ d ih =>
    intro n i hd hn hdr
    by_cases hlt : n < s.size
    · obtain ⟨c, h1, _⟩ := bt_nat s n hlt
      have hc := drop_cons h1
      have hl : (s.data.toList.drop n).length = s.size - n := by rw [List.length_drop, len]
      have ht := tk_len c (s.data.toList.drop (n + 1))
      have ha := scan_again c (s.data.toList.drop (n + 1))
      rw [hc, scan_cons, ← hc, List.drop_drop] at hdr
      rw [← hc] at ht ha
      rw [hl] at ht
      generalize tk (s.data.toList.drop n) = p at *
      obtain ⟨ty, m⟩ := p
      dsimp only [places] at hdr ht ha
      obtain ⟨hx, hi, hr⟩ := rd_drop ts i _ _ hdr
      have hlast : i + 1 < ts.length := by
        have := congrArg List.length hr
        rw [List.length_drop, places_len] at this
        omega
      have hex : (s.extract n (n + m)).data.toList = (s.data.toList.drop n).take m := by
        rw [ByteArray.data_extract, Array.toList_extract]
        simp [List.extract]
      have hse := scan_ev (s.extract n (n + m)) (by rw [ByteArray.size_extract]; omega)
      rw [hex, ha] at hse
      refine Ev.step (f := fun k => (lex_Scan.f k (s.extract n (n + m))).bind fun q =>
          (if q.length = 2 ∧ (rd_T26 q 0).f0 = ty ∧ (rd_T26 q 0).f1 = 0 ∧ (rd_T26 q 0).f2 = (m : Int) then oriellaw05_LexAgain.l k s ts (i + 1) else none)) (fun k => ?_) ?_
      · rw [oriellaw05_LexAgain.l, if_pos hlast, hx]
        dsimp only
        rw [if_pos ⟨by omega, by omega, by omega⟩, show ((n : Int)).toNat = n from rfl, show (((n + m : Nat) : Int)).toNat = n + m from rfl, show ((n + m : Nat) : Int) - (n : Int) = (m : Int) by omega]
      · refine Ev.bind (f := fun k q => (if q.length = 2 ∧ (rd_T26 q 0).f0 = ty ∧ (rd_T26 q 0).f1 = 0 ∧ (rd_T26 q 0).f2 = (m : Int) then oriellaw05_LexAgain.l k s ts (i + 1) else none)) hse ?_
        obtain ⟨h0, _, _⟩ := rd_drop (places 0 [(ty, m)]) 0 _ _ (by rw [List.drop_zero]; rfl)
        have hif : (places 0 [(ty, m)]).length = 2 ∧ (rd_T26 (places 0 [(ty, m)]) 0).f0 = ty ∧ (rd_T26 (places 0 [(ty, m)]) 0).f1 = 0 ∧ (rd_T26 (places 0 [(ty, m)]) 0).f2 = (m : Int) := by
          rw [show ((0 : Int)) = ((0 : Nat) : Int) from rfl, h0]
          refine ⟨rfl, rfl, rfl, ?_⟩
          dsimp only
          omega
        simp only [if_pos hif]
        exact ih (s.size - (n + m)) (by omega) (n + m) (i + 1) rfl (by omega) hr
    · have e : n = s.size := by omega
      rw [show s.data.toList.drop n = [] from List.drop_of_length_le (by rw [len]; omega), scan_nil] at hdr
      dsimp only [places] at hdr
      obtain ⟨hx, hi, hr⟩ := rd_drop ts i _ _ hdr
      have hlast : i + 1 = ts.length := by
        have := congrArg List.length hr
        rw [List.length_drop] at this
        simp at this
        omega
      refine Ev.step (f := fun k => oriellaw05_alive.f k) (fun k => by rw [oriellaw05_LexAgain.l, if_neg (by omega)]) ?_
      exact Ev.of oriellaw05_alive.mono alive_some
theorem LexAgain : oriellaw05_LexAgain.Pure := by
  intro s _
  refine Ev.rounds ?_
  unfold oriellaw05_LexAgain.f
  by_cases h : (s.size : Int) > 500
  · simp only [if_pos h]
    exact Ev.of oriellaw05_alive.mono alive_some
  · simp only [if_neg h]
    refine Ev.bind (f := fun k (t : List S26) => if 0 < t.length ∧ t.length < 1000000 then oriellaw05_LexAgain.l k s t 0 else none) (scan_ev s (by omega)) ?_
    have h2 := scan_len s.data.toList
    have h3 := len s
    have hl := places_len 0 (scan s.data.toList)
    simp only [if_pos (show 0 < (places 0 (scan s.data.toList)).length ∧ (places 0 (scan s.data.toList)).length < 1000000 by omega)]
    exact again_ev s (by omega) _ (s.size - 0) 0 0 rfl (by omega) (by simp)
end Go.Proofs.Ytcccambfcedakaa.Pure
