/- The lexer's law LexWhole: for every text (the law itself looks at texts of at most 10000 bytes) tokens' bytes, one behind the other, are the text; each has one byte at least, but the one at the end. No condition. -/
import Derived.Test.YtcccambfcedakaaLxAlive
import Derived.Test.YtcccambfcedakaaQAx6
namespace Go.Proofs.Ytcccambfcedakaa.Pure
open Go.RowKit Go.Proofs.Ytcccambfcedakaa.QA Go.Proofs.YtcccambfcedakaaW.PrintWords Go.Proofs.YtcccambfcedakaaW.PrintLast Oriel.Lx Go.Proofs.Ytcccambfcedakaa.Lx
theorem rd_drop (ts : List S26) (i : Nat) (x : S26) (r : List S26) (h : ts.drop i = x :: r) : rd_T26 ts (i : Int) = x ∧ i < ts.length ∧ ts.drop (i + 1) = r := by
  have hi : i < ts.length := by
    have := congrArg List.length h
    rw [List.length_drop, List.length_cons] at this
    omega
  rw [List.drop_eq_getElem_cons hi] at h
  injection h with h1 h2
  refine ⟨?_, hi, h2⟩
  unfold rd_T26
  rw [Int.toNat_natCast, List.getD_eq_getElem?_getD, List.getElem?_eq_getElem hi]
  exact h1
theorem whole_ev (s : ByteArray) (ts : List S26) (hts : ts.length ≤ 100000) : ∀ (d n i : Nat), s.size - n = d → n ≤ s.size → ts.drop i = places n (scan (s.data.toList.drop n)) →
    Ev (fun k => oriellaw05_LexWhole.l0 k s ts (n : Int) ts (ts.length : Int) (i : Int)) true := by
  intro d
  induction d using Nat.strongRecOn with
  | _ d ih =>
    intro n i hd hn hdr
    have wi : wrap64 ((ts.length : Int) - 1) = (ts.length : Int) - 1 := by unfold wrap64; omega
    by_cases hlt : n < s.size
    · obtain ⟨c, h1, _⟩ := bt_nat s n hlt
      have hc := drop_cons h1
      have hl : (s.data.toList.drop n).length = s.size - n := by rw [List.length_drop, len]
      have ht := tk_len c (s.data.toList.drop (n + 1))
      have hk := tk_kind c (s.data.toList.drop (n + 1))
      rw [hc, scan_cons, ← hc, List.drop_drop] at hdr
      rw [← hc] at ht hk
      rw [hl] at ht
      generalize tk (s.data.toList.drop n) = p at *
      obtain ⟨ty, m⟩ := p
      dsimp only [places] at hdr ht hk
      obtain ⟨hx, hi, hr⟩ := rd_drop ts i _ _ hdr
      have hlast : i + 1 < ts.length := by
        have := congrArg List.length hr
        rw [List.length_drop, places_len] at this
        omega
      refine Ev.step (f := fun k => oriellaw05_LexWhole.l0 k s ts ((n + m : Nat) : Int) ts (ts.length : Int) ((i + 1 : Nat) : Int)) (fun k => ?_) (ih (s.size - (n + m)) (by omega) (n + m) (i + 1) rfl (by omega) hr)
      rw [oriellaw05_LexWhole.l0, if_pos (by omega), if_pos (by omega), if_pos (by omega), hx, wi]
      dsimp only
      rw [if_pos rfl, beq_eq_false_iff_ne.2 (show ((n + m : Nat) : Int) ≠ (n : Int) by omega), beq_eq_false_iff_ne.2 (show (i : Int) ≠ (ts.length : Int) - 1 by omega), beq_eq_false_iff_ne.2 hk]
      rw [if_neg (by simp), if_neg (by simp), if_neg (by omega), if_neg (by omega), wrap_nat i (by omega)]
    · have e : n = s.size := by omega
      rw [show s.data.toList.drop n = [] from List.drop_of_length_le (by rw [len]; omega), scan_nil] at hdr
      dsimp only [places] at hdr
      obtain ⟨hx, hi, hr⟩ := rd_drop ts i _ _ hdr
      have hlast : i + 1 = ts.length := by
        have := congrArg List.length hr
        rw [List.length_drop] at this
        simp at this
        omega
      refine Ev.step (f := fun k => oriellaw05_LexWhole.l0 k s ts (n : Int) ts (ts.length : Int) ((i + 1 : Nat) : Int)) (fun k => ?_) ?_
      · rw [oriellaw05_LexWhole.l0, if_pos (by omega), if_pos (by omega), if_pos (by omega), hx, wi]
        dsimp only
        rw [if_pos rfl, show ((i : Int) == (ts.length : Int) - 1) = true from beq_iff_eq.2 (by omega)]
        rw [if_neg (by simp), if_neg (by simp), if_neg (by omega), if_neg (by omega), wrap_nat i (by omega)]
      · refine Ev.step (f := fun k => (oriellaw05_alive.f k).bind fun t => some t) (fun k => by rw [oriellaw05_LexWhole.l0, if_neg (by omega), if_pos (by omega), if_pos (by omega)]) ?_
        exact Ev.bind (f := fun _ (t : Bool) => some t) (Ev.of oriellaw05_alive.mono alive_some) (Ev.now _)
theorem LexWhole : oriellaw05_LexWhole.Pure := by
  intro s _
  refine Ev.rounds ?_
  unfold oriellaw05_LexWhole.f
  by_cases h : (s.size : Int) > 10000
  · simp only [if_pos h]
    exact Ev.bind (f := fun _ (t : Bool) => some t) (Ev.of oriellaw05_alive.mono alive_some) (Ev.now _)
  · simp only [if_neg h]
    refine Ev.bind (f := fun k (t : List S26) => oriellaw05_LexWhole.l0 k s t 0 t (t.length : Int) 0) (scan_ev s (by omega)) ?_
    have hlen : ∀ (f : Nat) (l : T), (scanF f l).length ≤ f := by
      intro f
      induction f with
      | zero => intro l; simp [scanF]
      | succ f ih =>
        intro l
        simp only [scanF]
        split
        · simp
        · have := ih (l.drop (tk l).2)
          simp; omega
    have h2 := hlen s.data.toList.length s.data.toList
    have h3 := len s
    exact whole_ev s _ (by rw [places_len]; unfold scan; omega) (s.size - 0) 0 0 rfl (by omega) (by simp)
end Go.Proofs.Ytcccambfcedakaa.Pure
