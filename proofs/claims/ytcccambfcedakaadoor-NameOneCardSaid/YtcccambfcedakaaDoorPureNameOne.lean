/- NameOne: a text is of one kind at most. No condition. -/
import Derived.Test.YtcccambfcedakaaDoorNmFacts
import Derived.Test.YtcccambfcedakaaDoorQDx5
namespace Oriel.Lx
def cntT (kk : Int) : Nat → Int
  | 0 => 0
  | n + 1 => if mayT ((n : Int) + 1) kk = true then cntT kk n + 1 else cntT kk n
theorem cnt_bound (kk : Int) : ∀ n, 0 ≤ cntT kk n ∧ cntT kk n ≤ n
  | 0 => ⟨by simp [cntT], by simp [cntT]⟩
  | n + 1 => by
    have := cnt_bound kk n
    unfold cntT
    split <;> omega
theorem cnt_six (kk : Int) : cntT kk 6 = if kk = 6 then 2 else if kk = 9 then 1 else if kk = 7 then 4 else 0 := by
  by_cases h6 : kk = 6
  · subst h6; decide
  · by_cases h9 : kk = 9
    · subst h9; decide
    · by_cases h7 : kk = 7
      · subst h7; decide
      · simp [cntT, mayT, h6, h9, h7]
end Oriel.Lx
namespace Go.Proofs.YtcccambfcedakaaDoor.Pure
open Go.RowKit Go.Proofs.YtcccambfcedakaaDoor.QD Go.Proofs.YtcccambfcedakaaDoorW.PrintWords Go.Proofs.YtcccambfcedakaaDoorW.PrintLast Oriel.Lx Go.Proofs.YtcccambfcedakaaDoor.Lx
theorem one_end (s : ByteArray) (hs : s.size ≤ 140737488351232) : Ev (fun k => oriellaw04_NameOne.l0 k s (cntT (kindT s.data.toList) 6) 7) true := by
  obtain ⟨K1, h1⟩ := level_ev s hs
  obtain ⟨K2, h2⟩ := kind_ev s hs
  obtain ⟨K3, h3⟩ := keyword_ev s
  obtain ⟨K4, h4⟩ := alive4_b
  refine ⟨K1 + K2 + K3 + K4 + 1, fun k hk => ?_⟩
  obtain ⟨k, rfl⟩ : ∃ m, k = m + 1 := ⟨k - 1, by omega⟩
  have h1' := h1 k (by omega)
  have h2' := h2 k (by omega)
  have h3' := h3 k (by omega)
  have h4' := h4 k (by omega)
  dsimp only at h1' h2' h3' h4' ⊢
  rw [oriellaw04_NameOne.l0, if_neg (by omega), h1']
  simp only [Option.bind_some, h2', h3', h4', mark_f, lev_pos, cnt_six, beq_self_eq_true, if_true]
  cases hk1 : isKeyword s.data.toList with
  | true =>
    have e := keyword_kind hk1
    cases hm : markT s.data.toList with
    | true =>
      have e' := mark_kind hm
      rw [e] at e'
      exact absurd e' (by decide)
    | false => simp [e]
  | false =>
    cases hm : markT s.data.toList with
    | true =>
      have e := mark_kind hm
      simp [e]
    | false =>
      by_cases h6 : kindT s.data.toList = 6
      · simp [h6]
      · by_cases h9 : kindT s.data.toList = 9
        · simp [h9]
        · by_cases h7 : kindT s.data.toList = 7
          · simp [h7]
          · simp [h6, h9, h7]
theorem one_loop (s : ByteArray) (hs : s.size ≤ 140737488351232) : ∀ d n : Nat, n + d = 6 → Ev (fun k => oriellaw04_NameOne.l0 k s (cntT (kindT s.data.toList) n) ((n : Int) + 1)) true := by
  intro d
  induction d with
  | zero =>
    intro n hn
    obtain rfl : n = 6 := by omega
    exact one_end s hs
  | succ d ih =>
    intro n hn
    have hw : wrap64 ((n : Int) + 1 + 1) = ((n + 1 : Nat) : Int) + 1 := by unfold wrap64; omega
    have hb := cnt_bound (kindT s.data.toList) n
    have hc : wrap64 (cntT (kindT s.data.toList) n + 1) = cntT (kindT s.data.toList) n + 1 := by unfold wrap64; omega
    obtain ⟨K1, h1⟩ := may_ev ((n : Int) + 1) s hs
    obtain ⟨K2, h2⟩ := ih (n + 1) (by omega)
    refine ⟨K1 + K2 + 1, fun k hk => ?_⟩
    obtain ⟨k, rfl⟩ : ∃ m, k = m + 1 := ⟨k - 1, by omega⟩
    have h1' := h1 k (by omega)
    have h2' := h2 k (by omega)
    dsimp only at h1' h2' ⊢
    rw [oriellaw04_NameOne.l0, if_pos (by omega), h1']
    simp only [Option.bind_some, hw, hc]
    rw [cntT] at h2'
    cases hm : mayT ((n : Int) + 1) (kindT s.data.toList) with
    | true => rw [hm, if_pos rfl] at h2'; rw [if_pos rfl]; exact h2'
    | false => rw [hm, if_neg (by simp)] at h2'; rw [if_neg (by simp)]; exact h2'
theorem NameOne : oriellaw04_NameOne.Pure := by
  intro s hs
  refine Ev.rounds ?_
  unfold oriellaw04_NameOne.f
  by_cases h1 : (s.size : Int) > 1000
  · simp only [if_pos h1]; exact alive4_b
  · simp only [if_neg h1]; exact one_loop s hs 6 0 (by omega)
end Go.Proofs.YtcccambfcedakaaDoor.Pure
