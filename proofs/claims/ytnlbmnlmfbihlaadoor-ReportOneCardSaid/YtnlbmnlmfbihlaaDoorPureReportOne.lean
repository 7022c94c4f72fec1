/- The law ReportOne: unlike texts are quoted unlike, and no quoted text has a byte 10, or one that is not printed; errors have unlike words. No condition. -/
import Derived.Test.YtnlbmnlmfbihlaaDoorRpUnq
import Derived.Test.YtnlbmnlmfbihlaaDoorQCx4
namespace Go.Proofs.YtnlbmnlmfbihlaaDoor.Pure
open Go.RowKit Go.Proofs.YtnlbmnlmfbihlaaDoor.QC Go.Proofs.YtnlbmnlmfbihlaaDoorW.PrintWords Go.Proofs.YtnlbmnlmfbihlaaDoorW.PrintLast Go.Proofs.YtnlbmnlmfbihlaaDoor.Rp
theorem qb_printed (c : UInt8) : ∀ x ∈ qb c, 32 ≤ x.toNat ∧ x.toNat ≤ 126 := by
  refine all_bytes (P := fun c => ∀ x ∈ qb c, 32 ≤ x.toNat ∧ x.toNat ≤ 126) ?_ c
  decide +kernel
theorem quoteL_printed (l : List UInt8) : ∀ x ∈ quoteL l, 32 ≤ x.toNat ∧ x.toNat ≤ 126 := by
  intro x hx
  unfold quoteL at hx
  simp only [List.cons_append, List.mem_cons, List.mem_append, List.mem_flatMap, List.not_mem_nil, or_false] at hx
  rcases hx with rfl | ⟨c, _, h⟩ | rfl
  · decide
  · exact qb_printed c x h
  · decide
def wordsL : List ByteArray := match orielref25_Words.f with
  | some l => l
  | none => []
theorem words_f : orielref25_Words.f = some wordsL := rfl
theorem words_len : wordsL.length = 18 := rfl
theorem words_apart (a b : Nat) (ha : a < 18) (hb : b < 18) : (((rdOf ByteArray.empty wordsL (a : Int)).toList == (rdOf ByteArray.empty wordsL (b : Int)).toList) == (((a : Nat) : Int) == ((b : Nat) : Int))) = true := by
  have h : ∀ a b : Fin 18, (((rdOf ByteArray.empty wordsL ((a.val : Nat) : Int)).data.toList == (rdOf ByteArray.empty wordsL ((b.val : Nat) : Int)).data.toList) == (((a.val : Nat) : Int) == ((b.val : Nat) : Int))) = true := by decide +kernel
  have := h ⟨a, ha⟩ ⟨b, hb⟩
  rw [ByteArray.toList_eq, ByteArray.toList_eq]
  exact this
theorem place_of (x : Int) : ∃ a : Nat, a < 18 ∧ Int.tmod (wrap64 ((Int.tmod x 18) + 18)) 18 = (a : Int) := by
  have h1 : -18 < Int.tmod x 18 := Int.lt_tmod_of_pos x (by decide)
  have h2 : Int.tmod x 18 < 18 := Int.tmod_lt_of_pos x (by decide)
  have hw : wrap64 (Int.tmod x 18 + 18) = Int.tmod x 18 + 18 := by unfold wrap64; omega
  rw [hw]
  have h3 : 0 ≤ Int.tmod (Int.tmod x 18 + 18) 18 := Int.tmod_nonneg _ (by omega)
  have h4 : Int.tmod (Int.tmod x 18 + 18) 18 < 18 := Int.tmod_lt_of_pos _ (by decide)
  exact ⟨(Int.tmod (Int.tmod x 18 + 18) 18).toNat, by omega, by omega⟩
theorem one_l (s t : ByteArray) (hs : s.size ≤ 1000) (ht : t.size ≤ 1000) (a b : Int) : ∀ (d n : Nat), (quoteL s.data.toList).length - n = d → n ≤ (quoteL s.data.toList).length →
    Ev (fun k => oriellaw25_ReportOne.l0 k s t a b ⟨(quoteL s.data.toList).toArray⟩ (((⟨(quoteL s.data.toList).toArray⟩ : ByteArray).size : Nat) : Int) (n : Int)) true := by
  have hsl := len s
  have htl := len t
  have hz : (⟨(quoteL s.data.toList).toArray⟩ : ByteArray).size = (quoteL s.data.toList).length := rfl
  have hql := quoteL_len s.data.toList
  have hfl := flat_len s.data.toList
  intro d
  induction d with
  | zero =>
    intro n hd hn
    obtain ⟨i, hi, ei⟩ := place_of a
    obtain ⟨j, hj, ej⟩ := place_of b
    have hq : report_Quote.f t = some ⟨(quoteL t.data.toList).toArray⟩ := by unfold report_Quote.f; rw [if_pos (by omega)]
    refine Ev.step (f := fun k => (oriellaw25_alive.f k).bind fun t => some t) (fun k => ?_) alive_ev
    rw [oriellaw25_ReportOne.l0, if_neg (by omega), words_f, hq]
    simp only [Option.bind_some]
    have e1 : (((⟨(quoteL s.data.toList).toArray⟩ : ByteArray).toList == (⟨(quoteL t.data.toList).toArray⟩ : ByteArray).toList) == (s.toList == t.toList)) = true := by
      simp only [ByteArray.toList_eq]
      show ((quoteL s.data.toList == quoteL t.data.toList) == (s.data.toList == t.data.toList)) = true
      by_cases h : s.data.toList = t.data.toList
      · rw [h]; simp
      · have h2 : ¬ quoteL s.data.toList = quoteL t.data.toList := fun e => h (quoteL_inj _ _ e (by omega) (by omega))
        rw [beq_eq_false_iff_ne.2 h, beq_eq_false_iff_ne.2 h2]
        rfl
    rw [if_pos e1, ei, ej, words_len, if_pos (by omega), if_pos (by omega), if_pos (by omega), if_pos (by omega), if_pos (words_apart i j hi hj)]
  | succ d ih =>
    intro n hd hn
    have hl : n < (quoteL s.data.toList).length := by omega
    obtain ⟨c, h1, h2⟩ := bt_nat ⟨(quoteL s.data.toList).toArray⟩ n (by omega)
    have hp := quoteL_printed s.data.toList c (List.mem_iff_getElem?.2 ⟨n, h1⟩)
    refine Ev.step (f := fun k => oriellaw25_ReportOne.l0 k s t a b ⟨(quoteL s.data.toList).toArray⟩ (((⟨(quoteL s.data.toList).toArray⟩ : ByteArray).size : Nat) : Int) ((n + 1 : Nat) : Int)) (fun k => ?_) (ih (n + 1) (by omega) (by omega))
    rw [oriellaw25_ReportOne.l0, if_pos (by omega), if_pos (by omega), if_pos (by omega), h2, if_neg (by omega), if_neg (by omega), wrap_nat n (by omega)]
theorem ReportOne : oriellaw25_ReportOne.Pure := by
  intro s t a b _ _ _ _
  refine Ev.rounds ?_
  have hj : Ev (fun k => oriellaw25_ReportOne.j0 k s t a b true) true := Ev.step (f := fun k => (oriellaw25_alive.f k).bind fun t => some t) (fun k => by rw [oriellaw25_ReportOne.j0, if_pos rfl]) alive_ev
  unfold oriellaw25_ReportOne.f
  by_cases h : (s.size : Int) > 1000
  · simp only [if_pos h]; exact hj
  · simp only [if_neg h]
    by_cases h2 : (t.size : Int) > 1000
    · rw [decide_eq_true h2]; exact hj
    · rw [decide_eq_false h2]
      have hq : report_Quote.f s = some ⟨(quoteL s.data.toList).toArray⟩ := by unfold report_Quote.f; rw [if_pos (by omega)]
      refine Ev.step (f := fun k => oriellaw25_ReportOne.l0 k s t a b ⟨(quoteL s.data.toList).toArray⟩ (((⟨(quoteL s.data.toList).toArray⟩ : ByteArray).size : Nat) : Int) 0) (fun k => ?_) (one_l s t (by omega) (by omega) a b _ 0 rfl (Nat.zero_le _))
      rw [oriellaw25_ReportOne.j0, if_neg (by simp), hq]
      rfl
end Go.Proofs.YtnlbmnlmfbihlaaDoor.Pure
