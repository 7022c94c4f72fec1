/- A token's own text is one token, of its kind: on lists of bytes. -/
import Derived.Test.YtcccambfcedakaaLxSpec
namespace Oriel.Lx
theorem take_runN (p : UInt8 → Bool) (l : T) : l.take (runLen p l) = l.takeWhile p := by
  unfold runLen
  induction l with
  | nil => rfl
  | cons b r ih =>
    rw [List.takeWhile_cons]
    split
    · rw [List.length_cons, List.take_succ_cons, ih]
    · rfl
theorem tw_tw (p q : UInt8 → Bool) (h : ∀ c, p c = true → q c = true) (l : T) : (l.takeWhile q).takeWhile p = l.takeWhile p := by
  induction l with
  | nil => rfl
  | cons b r ih =>
    rw [List.takeWhile_cons, List.takeWhile_cons (p := p)]
    by_cases hq : q b = true
    · rw [if_pos hq, List.takeWhile_cons, ih]
    · rw [if_neg hq, if_neg (fun hp => hq (h b hp))]
      rfl
theorem run_take (p q : UInt8 → Bool) (h : ∀ c, p c = true → q c = true) (l : T) : runLen p (l.take (runLen q l)) = runLen p l := by
  rw [take_runN]
  unfold runLen
  rw [tw_tw p q h]
theorem note_take : ∀ (f : Nat) (l : T) (d n : Nat), l.length ≤ f → noteN l d = some n → noteN (l.take n) d = some n := by
  intro f
  induction f with
  | zero =>
    intro l d n hf h
    obtain rfl : l = [] := List.eq_nil_of_length_eq_zero (by omega)
    simp [noteN] at h
  | succ f ih =>
    intro l d n hf h
    unfold noteN at h
    split at h
    · rename_i r d'
      obtain ⟨m, hm, rfl⟩ := Option.map_eq_some_iff.1 h
      have := ih _ _ _ (by simp at hf ⊢; omega) hm
      rw [show m + 2 = (m + 1) + 1 by omega, List.take_succ_cons, List.take_succ_cons, noteN, this]
      rfl
    · rename_i r d'
      split at h
      · rename_i hd
        obtain ⟨m, hm, rfl⟩ := Option.map_eq_some_iff.1 h
        have := ih _ _ _ (by simp at hf ⊢; omega) hm
        rw [show m + 2 = (m + 1) + 1 by omega, List.take_succ_cons, List.take_succ_cons, noteN, if_pos hd, this]
        rfl
      · rename_i hd
        cases h
        simp [noteN, hd]
    · rename_i c r h1 h2
      split at h
      · rename_i hd
        obtain ⟨m, hm, rfl⟩ := Option.map_eq_some_iff.1 h
        have := ih _ _ _ (by simp at hf ⊢; omega) hm
        rw [List.take_succ_cons, noteN, if_pos hd, this]
        · rfl
        · intro r' hc hr
          rcases r with _ | ⟨x, r2⟩
          · simp at hr
          · rcases m with _ | m
            · simp at hr
            · simp at hr; exact h1 r2 hc (by rw [hr.1])
        · intro r' hc hr
          rcases r with _ | ⟨x, r2⟩
          · simp at hr
          · rcases m with _ | m
            · simp at hr
            · simp at hr; exact h2 r2 hc (by rw [hr.1])
      · rename_i hd
        cases h
        rw [List.take_succ_cons, List.take_zero, noteN, if_neg hd]
        · intro r' _ hr; cases hr
        · intro r' _ hr; cases hr
    · cases h
theorem text_take : ∀ (f : Nat) (l : T) (n : Nat), l.length ≤ f → textN l = some n → textN (l.take n) = some n := by
  intro f
  induction f with
  | zero =>
    intro l n hf h
    obtain rfl : l = [] := List.eq_nil_of_length_eq_zero (by omega)
    simp [textN] at h
  | succ f ih =>
    intro l n hf h
    unfold textN at h
    rcases l with _ | ⟨b, r⟩
    · cases h
    · simp only at h
      by_cases h1 : b = 34
      · rw [if_pos h1] at h; cases h; simp [textN, h1]
      · rw [if_neg h1] at h
        by_cases h2 : b = 10
        · rw [if_pos h2] at h; cases h
        · rw [if_neg h2] at h
          by_cases h3 : b = 92
          · rw [if_pos h3] at h
            rcases r with _ | ⟨c, r'⟩
            · cases h
            · simp only at h
              by_cases h4 : c = 34 ∨ c = 92 ∨ c = 110 ∨ c = 116
              · rw [if_pos h4] at h
                obtain ⟨m, hm, rfl⟩ := Option.map_eq_some_iff.1 h
                have := ih _ _ (by simp at hf ⊢; omega) hm
                rw [show m + 2 = (m + 1) + 1 by omega, List.take_succ_cons, List.take_succ_cons, textN_cons, if_neg h1, if_neg h2, if_pos h3]
                dsimp only
                rw [if_pos h4, this]
                rfl
              · rw [if_neg h4] at h; cases h
          · rw [if_neg h3] at h
            obtain ⟨m, hm, rfl⟩ := Option.map_eq_some_iff.1 h
            have := ih _ _ (by simp at hf ⊢; omega) hm
            rw [List.take_succ_cons, textN_cons, if_neg h1, if_neg h2, if_neg h3, this]
            rfl
theorem text_line : ∀ (f : Nat) (l : T), l.length ≤ f → textN l = none → textN (l.takeWhile (fun c => c != 10)) = none := by
  intro f
  induction f with
  | zero =>
    intro l hf _
    obtain rfl : l = [] := List.eq_nil_of_length_eq_zero (by omega)
    rfl
  | succ f ih =>
    intro l hf h
    rcases l with _ | ⟨b, r⟩
    · rfl
    · rw [textN_cons] at h
      by_cases h1 : b = 34
      · rw [if_pos h1] at h; cases h
      · rw [if_neg h1] at h
        by_cases h2 : b = 10
        · rw [List.takeWhile_cons, if_neg (by simp [h2])]; rfl
        · rw [if_neg h2] at h
          rw [List.takeWhile_cons, if_pos (by simp [h2])]
          rw [textN_cons, if_neg h1, if_neg h2]
          by_cases h3 : b = 92
          · rw [if_pos h3] at h ⊢
            rcases r with _ | ⟨c, r'⟩
            · rfl
            · dsimp only at h
              by_cases h4 : c = 34 ∨ c = 92 ∨ c = 110 ∨ c = 116
              · rw [if_pos h4] at h
                have hc : (c != 10) = true := by rcases h4 with rfl | rfl | rfl | rfl <;> rfl
                rw [List.takeWhile_cons, if_pos hc]
                dsimp only
                rw [if_pos h4, ih _ (by simp at hf ⊢; omega) (by simpa using h)]
                rfl
              · rw [List.takeWhile_cons]
                by_cases hc : (c != 10) = true
                · rw [if_pos hc]; dsimp only; rw [if_neg h4]
                · rw [if_neg hc]
          · rw [if_neg h3] at h ⊢
            rw [ih _ (by simp at hf ⊢; omega) (by simpa using h)]
            rfl
theorem words_take (l : T) (e : Nat) : wordsT (l.take e) e = wordsT l e := by
  unfold wordsT
  rw [List.take_take, Nat.min_self]
theorem tk_again (b : UInt8) (r : T) : tk ((b :: r).take (tk (b :: r)).2) = tk (b :: r) := by
  have hpos := (tk_len b r).1
  obtain ⟨m, hm⟩ : ∃ m, (tk (b :: r)).2 = m + 1 := ⟨(tk (b :: r)).2 - 1, by omega⟩
  have htk : (b :: r).take (tk (b :: r)).2 = b :: r.take m := by rw [hm, List.take_succ_cons]
  have heq : ∀ e, e = (tk (b :: r)).2 → (b :: r).take e = b :: r.take m := fun e he => by rw [he, htk]
  rw [htk]
  have hno : ¬ (b = 40 ∧ r.head? = some 42) → ¬ (b = 40 ∧ (r.take m).head? = some 42) := by
    rintro h ⟨h1, h2⟩
    refine h ⟨h1, ?_⟩
    rcases r with _ | ⟨x, r⟩
    · simp at h2
    · rcases m with _ | m
      · simp at h2
      · simpa using h2
  by_cases q0 : isBlank b = true
  · have e : tk (b :: r) = (1, runLen isBlank (b :: r)) := by simp only [tk]; rw [if_pos q0]
    have h := heq (runLen isBlank (b :: r)) (by rw [e])
    rw [e]
    simp only [tk]
    rw [if_pos q0, ← h, run_take _ _ (fun _ h => h)]
  by_cases q1 : b = 40 ∧ r.head? = some 42
  · obtain ⟨rfl, hr⟩ := q1
    obtain ⟨r', rfl⟩ : ∃ r', r = 42 :: r' := by
      rcases r with _ | ⟨x, r'⟩
      · simp at hr
      · simp at hr; exact ⟨r', by rw [hr]⟩
    cases hN : noteN (40 :: 42 :: r') 0 with
    | none =>
      have e : tk (40 :: 42 :: r') = (3, (40 :: 42 :: r').length) := by
        simp only [tk]
        rw [if_neg q0, if_pos (by simp), hN]
      have h := heq (40 :: 42 :: r').length (by rw [e])
      rw [List.take_length] at h
      rw [← h]
    | some n =>
      have e : tk (40 :: 42 :: r') = (2, n) := by
        simp only [tk]
        rw [if_neg q0, if_pos (by simp), hN]
      have h := heq n (by rw [e])
      have ht := note_take _ _ _ _ (Nat.le_refl _) hN
      rw [h] at ht
      have hn2 : 2 ≤ n := by
        rw [noteN] at hN
        obtain ⟨q, _, rfl⟩ := Option.map_eq_some_iff.1 hN
        omega
      have hm1 : 1 ≤ m := by rw [e] at hm; simp at hm; omega
      obtain ⟨m, rfl⟩ : ∃ q, m = q + 1 := ⟨m - 1, by omega⟩
      rw [e]
      simp only [tk]
      rw [if_neg q0, if_pos (by simp), ht]
  by_cases q2 : b = 34
  · cases hT : textN r with
    | none =>
      have e : tk (b :: r) = (3, runLen (fun c => c != 10) (b :: r)) := by
        simp only [tk]
        rw [if_neg q0, if_neg q1, if_pos q2, hT]
      have h := heq (runLen (fun c => c != 10) (b :: r)) (by rw [e])
      have hrl : runLen (fun c => c != 10) (b :: r) = runLen (fun c => c != 10) r + 1 := by
        unfold runLen
        rw [List.takeWhile_cons, if_pos (by subst q2; rfl), List.length_cons]
      have hr : r.take m = r.takeWhile (fun c => c != 10) := by
        rw [← take_runN]
        congr 1
        rw [e] at hm
        simp at hm
        omega
      have ht : textN (r.take m) = none := by rw [hr]; exact text_line _ _ (Nat.le_refl _) hT
      rw [e]
      simp only [tk]
      rw [if_neg q0, if_neg (hno q1), if_pos q2, ht]
      simp only
      rw [← h, run_take _ _ (fun _ h => h)]
    | some n =>
      have e : tk (b :: r) = (5, n + 1) := by
        simp only [tk]
        rw [if_neg q0, if_neg q1, if_pos q2, hT]
      have hmn : m = n := by rw [e] at hm; simp at hm; omega
      subst hmn
      rw [e]
      simp only [tk]
      rw [if_neg q0, if_neg (hno q1), if_pos q2, text_take _ _ _ (Nat.le_refl _) hT]
  by_cases q3 : isDigit b = true
  · have e : tk (b :: r) = if runLen isDigit (b :: r) < runLen isRest (b :: r) then (3, runLen isRest (b :: r)) else (4, runLen isRest (b :: r)) := by
      simp only [tk]
      rw [if_neg q0, if_neg q1, if_neg q2, if_pos q3]
    have h := heq (runLen isRest (b :: r)) (by rw [e]; split <;> rfl)
    rw [e]
    simp only [tk]
    rw [if_neg q0, if_neg (hno q1), if_neg q2, if_pos q3, ← h, run_take _ _ (fun _ h => h), run_take _ _ digit_rest]
  by_cases q4 : isSign b = true
  · have e : tk (b :: r) = wordsT (b :: r) (runLen isSign (b :: r)) := by
      simp only [tk]
      rw [if_neg q0, if_neg q1, if_neg q2, if_neg q3, if_pos q4]
    have h := heq (runLen isSign (b :: r)) (by rw [e, words_len])
    rw [e]
    simp only [tk]
    rw [if_neg q0, if_neg (hno q1), if_neg q2, if_neg q3, if_pos q4, ← h, run_take _ _ (fun _ h => h), words_take]
  by_cases q5 : isRest b = true
  · have e : tk (b :: r) = wordsT (b :: r) (runLen isRest (b :: r)) := by
      simp only [tk]
      rw [if_neg q0, if_neg q1, if_neg q2, if_neg q3, if_neg q4, if_pos q5]
    have h := heq (runLen isRest (b :: r)) (by rw [e, words_len])
    rw [e]
    simp only [tk]
    rw [if_neg q0, if_neg (hno q1), if_neg q2, if_neg q3, if_neg q4, if_pos q5, ← h, run_take _ _ (fun _ h => h), words_take]
  have e : tk (b :: r) = wordsT (b :: r) 1 := by
    simp only [tk]
    rw [if_neg q0, if_neg q1, if_neg q2, if_neg q3, if_neg q4, if_neg q5]
  have h := heq 1 (by rw [e, words_len])
  rw [e]
  simp only [tk]
  rw [if_neg q0, if_neg (hno q1), if_neg q2, if_neg q3, if_neg q4, if_neg q5, ← h, words_take]
theorem scan_again (b : UInt8) (r : T) : scan ((b :: r).take (tk (b :: r)).2) = [tk (b :: r)] := by
  have h := tk_again b r
  have hl := tk_len b r
  obtain ⟨m, hm⟩ : ∃ m, (tk (b :: r)).2 = m + 1 := ⟨(tk (b :: r)).2 - 1, by omega⟩
  have e : (b :: r).take (tk (b :: r)).2 = b :: r.take m := by rw [hm, List.take_succ_cons]
  rw [e] at h ⊢
  rw [scan_cons, h, ← e, List.drop_take, Nat.sub_self, List.take_zero, scan_nil]
end Oriel.Lx
