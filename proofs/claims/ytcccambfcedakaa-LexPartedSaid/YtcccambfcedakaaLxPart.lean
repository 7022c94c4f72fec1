/- A line end between two texts: the tokens of both, on lists of bytes. -/
import Derived.Test.YtcccambfcedakaaLxAgain
namespace Oriel.Lx
theorem run_app10 (p : UInt8 → Bool) (h : p 10 = false) (l t : T) : runLen p (l ++ 10 :: t) = runLen p l := by
  unfold runLen
  induction l with
  | nil => rw [List.nil_append, List.takeWhile_cons, if_neg (by rw [h]; simp)]; rfl
  | cons b r ih =>
    rw [List.cons_append, List.takeWhile_cons, List.takeWhile_cons]
    split
    · rw [List.length_cons, List.length_cons, ih]
    · rfl
theorem run_app (p : UInt8 → Bool) (l x : T) (h : runLen p l < l.length) : runLen p (l ++ x) = runLen p l := by
  unfold runLen at *
  induction l with
  | nil => simp at h
  | cons b r ih =>
    rw [List.takeWhile_cons] at h
    rw [List.cons_append, List.takeWhile_cons, List.takeWhile_cons]
    split
    · rename_i hb
      rw [if_pos hb, List.length_cons, List.length_cons] at h
      rw [List.length_cons, List.length_cons, ih (by omega)]
    · rfl
theorem run_full (p : UInt8 → Bool) (l x : T) (h : runLen p l = l.length) : runLen p (l ++ x) = l.length + runLen p x := by
  unfold runLen at *
  induction l with
  | nil => simp
  | cons b r ih =>
    rw [List.takeWhile_cons] at h
    rw [List.cons_append, List.takeWhile_cons]
    by_cases hb : p b = true
    · rw [if_pos hb, List.length_cons, List.length_cons] at h
      rw [if_pos hb, List.length_cons, List.length_cons, ih (by omega)]
      omega
    · rw [if_neg hb] at h
      simp at h
theorem note_app (t : T) : ∀ (f : Nat) (l : T) (d n : Nat), l.length ≤ f → noteN l d = some n → noteN (l ++ 10 :: t) d = some n := by
  intro f
  induction f with
  | zero =>
    intro l d n hf h
    obtain rfl : l = [] := List.eq_nil_of_length_eq_zero (by omega)
    simp [noteN] at h
  | succ f ih =>
    intro l d n hf h
    unfold noteN at h
    split at h
    · obtain ⟨m, hm, rfl⟩ := Option.map_eq_some_iff.1 h
      have := ih _ _ _ (by simp at hf ⊢; omega) hm
      rw [List.cons_append, List.cons_append, noteN, this]
      rfl
    · split at h
      · rename_i hd
        obtain ⟨m, hm, rfl⟩ := Option.map_eq_some_iff.1 h
        have := ih _ _ _ (by simp at hf ⊢; omega) hm
        rw [List.cons_append, List.cons_append, noteN, if_pos hd, this]
        rfl
      · rename_i hd
        cases h
        rw [List.cons_append, List.cons_append, noteN, if_neg hd]
    · rename_i c r h1 h2
      have n1 : ∀ r', c = 40 → r ++ 10 :: t = 42 :: r' → False := fun r' hc hr => by
        rcases r with _ | ⟨x, r2⟩
        · simp at hr
        · simp at hr; exact h1 r2 hc (by rw [hr.1])
      have n2 : ∀ r', c = 42 → r ++ 10 :: t = 41 :: r' → False := fun r' hc hr => by
        rcases r with _ | ⟨x, r2⟩
        · simp at hr
        · simp at hr; exact h2 r2 hc (by rw [hr.1])
      split at h
      · rename_i hd
        obtain ⟨m, hm, rfl⟩ := Option.map_eq_some_iff.1 h
        have := ih _ _ _ (by simp at hf ⊢; omega) hm
        rw [List.cons_append, noteN, if_pos hd, this]
        · rfl
        · exact n1
        · exact n2
      · rename_i hd
        cases h
        rw [List.cons_append, noteN, if_neg hd]
        · exact n1
        · exact n2
    · cases h
theorem text_app (x : T) : ∀ (f : Nat) (l : T) (n : Nat), l.length ≤ f → textN l = some n → textN (l ++ x) = some n := by
  intro f
  induction f with
  | zero =>
    intro l n hf h
    obtain rfl : l = [] := List.eq_nil_of_length_eq_zero (by omega)
    simp [textN] at h
  | succ f ih =>
    intro l n hf h
    rcases l with _ | ⟨b, r⟩
    · simp [textN] at h
    · rw [textN_cons] at h
      rw [List.cons_append, textN_cons]
      by_cases h1 : b = 34
      · rw [if_pos h1] at h ⊢; exact h
      · rw [if_neg h1] at h ⊢
        by_cases h2 : b = 10
        · rw [if_pos h2] at h; cases h
        · rw [if_neg h2] at h ⊢
          by_cases h3 : b = 92
          · rw [if_pos h3] at h ⊢
            rcases r with _ | ⟨c, r'⟩
            · cases h
            · dsimp only [List.cons_append] at h ⊢
              by_cases h4 : c = 34 ∨ c = 92 ∨ c = 110 ∨ c = 116
              · rw [if_pos h4] at h ⊢
                obtain ⟨m, hm, rfl⟩ := Option.map_eq_some_iff.1 h
                rw [ih _ _ (by simp at hf ⊢; omega) hm]
                rfl
              · rw [if_neg h4] at h; cases h
          · rw [if_neg h3] at h ⊢
            obtain ⟨m, hm, rfl⟩ := Option.map_eq_some_iff.1 h
            rw [ih _ _ (by simp at hf ⊢; omega) hm]
            rfl
theorem words_app (l x : T) (e : Nat) (h : e ≤ l.length) : wordsT (l ++ x) e = wordsT l e := by
  unfold wordsT
  rw [List.take_append_of_le_length h]
theorem tk_app (b : UInt8) (r t : T) (hk : (tk (b :: r)).1 ≠ 3) (hb : ¬ (isBlank b = true ∧ runLen isBlank (b :: r) = (b :: r).length)) : tk ((b :: r) ++ 10 :: t) = tk (b :: r) := by
  have hno : (r ++ 10 :: t).head? = some 42 ↔ r.head? = some 42 := by
    rcases r with _ | ⟨x, r⟩
    · simp
    · simp
  by_cases q0 : isBlank b = true
  · have hl : runLen isBlank (b :: r) < (b :: r).length := by
      have := runN_le isBlank (b :: r)
      have : ¬ runLen isBlank (b :: r) = (b :: r).length := fun e => hb ⟨q0, e⟩
      omega
    have e := run_app isBlank (b :: r) (10 :: t) hl
    rw [List.cons_append] at e ⊢
    simp only [tk]
    rw [if_pos q0, if_pos q0, e]
  by_cases q1 : b = 40 ∧ r.head? = some 42
  · have e := note_app t (b :: r).length (b :: r) 0
    rw [List.cons_append] at e ⊢
    simp only [tk] at hk ⊢
    rw [if_neg q0, if_pos q1] at hk ⊢
    rw [if_neg q0, if_pos ⟨q1.1, hno.2 q1.2⟩]
    cases hN : noteN (b :: r) 0 with
    | none => rw [hN] at hk; exact absurd rfl hk
    | some n => rw [e n (Nat.le_refl _) hN]
  have q1' : ¬ (b = 40 ∧ (r ++ 10 :: t).head? = some 42) := fun h => q1 ⟨h.1, hno.1 h.2⟩
  by_cases q2 : b = 34
  · rw [List.cons_append]
    simp only [tk] at hk ⊢
    rw [if_neg q0, if_neg q1, if_pos q2] at hk ⊢
    rw [if_neg q0, if_neg q1', if_pos q2]
    cases hT : textN r with
    | none => rw [hT] at hk; exact absurd rfl hk
    | some n => rw [text_app (10 :: t) _ r n (Nat.le_refl _) hT]
  by_cases q3 : isDigit b = true
  · have e1 := run_app10 isDigit (by rfl) (b :: r) t
    have e2 := run_app10 isRest (by rfl) (b :: r) t
    rw [List.cons_append] at e1 e2 ⊢
    simp only [tk]
    rw [if_neg q0, if_neg q1, if_neg q2, if_pos q3, if_neg q0, if_neg q1', if_neg q2, if_pos q3, e1, e2]
  by_cases q4 : isSign b = true
  · have e1 := run_app10 isSign (by rfl) (b :: r) t
    have e2 := words_app (b :: r) (10 :: t) (runLen isSign (b :: r)) (runN_le _ _)
    rw [List.cons_append] at e1 e2 ⊢
    simp only [tk]
    rw [if_neg q0, if_neg q1, if_neg q2, if_neg q3, if_pos q4, if_neg q0, if_neg q1', if_neg q2, if_neg q3, if_pos q4, e1, e2]
  by_cases q5 : isRest b = true
  · have e1 := run_app10 isRest (by rfl) (b :: r) t
    have e2 := words_app (b :: r) (10 :: t) (runLen isRest (b :: r)) (runN_le _ _)
    rw [List.cons_append] at e1 e2 ⊢
    simp only [tk]
    rw [if_neg q0, if_neg q1, if_neg q2, if_neg q3, if_neg q4, if_pos q5, if_neg q0, if_neg q1', if_neg q2, if_neg q3, if_neg q4, if_pos q5, e1, e2]
  have e2 := words_app (b :: r) (10 :: t) 1 (by simp)
  rw [List.cons_append] at e2 ⊢
  simp only [tk]
  rw [if_neg q0, if_neg q1, if_neg q2, if_neg q3, if_neg q4, if_neg q5, if_neg q0, if_neg q1', if_neg q2, if_neg q3, if_neg q4, if_neg q5, e2]
/-- The tokens that say something, with their places. -/
def wd : Nat → List (Int × Nat) → List (Int × Nat × Nat)
  | _, [] => []
  | n, (k, m) :: r => if k = 1 ∨ k = 2 then wd (n + m) r else (k, n, n + m) :: wd (n + m) r
theorem tk_blank (b : UInt8) (r : T) (h : isBlank b = true) : tk (b :: r) = (1, runLen isBlank (b :: r)) := by
  simp only [tk]; rw [if_pos h]
theorem wd_lead (m : Nat) (t : T) : wd m (scan t) = wd (m + runLen isBlank t) (scan (t.drop (runLen isBlank t))) := by
  rcases t with _ | ⟨b, r⟩
  · simp [runLen]
  · by_cases h : isBlank b = true
    · rw [scan_cons, tk_blank b r h]
      simp [wd]
    · have : runLen isBlank (b :: r) = 0 := by unfold runLen; rw [List.takeWhile_cons, if_neg h]; rfl
      rw [this]; rfl
theorem wd_lead10 (m : Nat) (t : T) : wd m (scan (10 :: t)) = wd (m + 1) (scan t) := by
  have e : runLen isBlank (10 :: t) = runLen isBlank t + 1 := by
    unfold runLen
    rw [List.takeWhile_cons, if_pos (by rfl), List.length_cons]
  rw [wd_lead m (10 :: t), e, wd_lead (m + 1) t, List.drop_succ_cons]
  congr 1
  omega
theorem wd_part (t : T) : ∀ (f : Nat) (l : T) (n : Nat), l.length ≤ f → (∀ x ∈ scan l, x.1 ≠ 3) → wd n (scan (l ++ 10 :: t)) = wd n (scan l) ++ wd (n + l.length + 1) (scan t) := by
  intro f
  induction f with
  | zero =>
    intro l n hf _
    obtain rfl : l = [] := List.eq_nil_of_length_eq_zero (by omega)
    rw [List.nil_append, scan_nil, wd_lead10]
    rfl
  | succ f ih =>
    intro l n hf hg
    rcases l with _ | ⟨b, r⟩
    · rw [List.nil_append, scan_nil, wd_lead10]
      rfl
    · have hl := tk_len b r
      rw [scan_cons] at hg
      by_cases hA : isBlank b = true ∧ runLen isBlank (b :: r) = (b :: r).length
      · obtain ⟨h1, h2⟩ := hA
        have e : runLen isBlank ((b :: r) ++ 10 :: t) = (b :: r).length + (runLen isBlank t + 1) := by
          rw [run_full _ _ _ h2]
          unfold runLen
          rw [List.takeWhile_cons, if_pos (by rfl)]
          simp only [List.length_cons]
        rw [wd_lead n ((b :: r) ++ 10 :: t), e, List.drop_length_add_append, List.drop_succ_cons, wd_lead (n + (b :: r).length + 1) t]
        have : wd n (scan (b :: r)) = [] := by
          rw [scan_cons, tk_blank b r h1, h2, List.drop_length, scan_nil]
          simp [wd]
        rw [this, List.nil_append]
        congr 1
        omega
      · have hk := tk_app b r t (hg _ (List.mem_cons_self ..)) hA
        have e1 : scan ((b :: r) ++ 10 :: t) = tk (b :: r) :: scan ((b :: r).drop (tk (b :: r)).2 ++ 10 :: t) := by
          have := scan_cons b (r ++ 10 :: t)
          rw [← List.cons_append, hk, List.drop_append_of_le_length hl.2] at this
          exact this
        have hi := ih ((b :: r).drop (tk (b :: r)).2) (n + (tk (b :: r)).2) (by rw [List.length_drop]; simp at hf hl ⊢; omega) (fun x hx => hg x (List.mem_cons_of_mem _ hx))
        rw [e1, scan_cons]
        have hd : ((b :: r).drop (tk (b :: r)).2).length = (b :: r).length - (tk (b :: r)).2 := List.length_drop ..
        rw [hd] at hi
        have hn : n + (tk (b :: r)).2 + ((b :: r).length - (tk (b :: r)).2) + 1 = n + (b :: r).length + 1 := by omega
        rw [hn] at hi
        generalize tk (b :: r) = p at hi ⊢
        obtain ⟨k, m⟩ := p
        simp only [wd]
        dsimp only at hi
        by_cases hw : k = 1 ∨ k = 2
        · rw [if_pos hw, if_pos hw]; exact hi
        · rw [if_neg hw, if_neg hw, hi]; rfl
end Oriel.Lx
