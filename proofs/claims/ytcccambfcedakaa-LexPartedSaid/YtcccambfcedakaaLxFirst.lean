/- The first bad token. -/
import Derived.Test.YtcccambfcedakaaLxTok
import Derived.Test.YtcccambfcedakaaQAx6
namespace Go.Proofs.Ytcccambfcedakaa.Lx
open Go.RowKit Go.Proofs.Ytcccambfcedakaa.QA Go.Proofs.YtcccambfcedakaaW.PrintWords Go.Proofs.YtcccambfcedakaaW.PrintLast Oriel.Lx
theorem rd_drop (ts : List S26) (i : Nat) (x : S26) (r : List S26) (h : ts.drop i = x :: r) : rd_T26 ts (i : Int) = x ∧ i < ts.length ∧ ts.drop (i + 1) = r := by
  have hi : i < ts.length := by
    have := congrArg List.length h
    rw [List.length_drop, List.length_cons] at this
    omega
  rw [List.drop_eq_getElem_cons hi] at h
  injection h with h1 h2
  refine ⟨?_, hi, h2⟩
  unfold rd_T26
  rw [Int.toNat_natCast, List.getD_eq_getElem?_getD, List.getElem?_eq_getElem hi]
  exact h1
/-- What is wrong with a token. -/
def badE (s : ByteArray) (x : S26) : Int :=
  if x.f0 = 3 ∧ 0 ≤ x.f1 ∧ x.f1 < (s.size : Int) ∧ x.f1 < x.f2 ∧ x.f2 ≤ (s.size : Int) then (if bt s x.f1 = 40 ∨ bt s x.f1 = 34 then 8 else 7) else 0
theorem bad_ev (s : ByteArray) (x : S26) : Ev (fun k => lex_Bad.f k x.f0 x.f1 x.f2 s) (badE s x) := by
  have j1 : Ev (fun k => lex_Bad.j0 k s true x.f0 x.f1 x.f2) 0 := Ev.step (f := fun _ => some 0) (fun k => by rw [lex_Bad.j0, if_pos rfl]) (Ev.now _)
  unfold lex_Bad.f badE
  by_cases h1 : x.f0 = 3
  · by_cases h2 : x.f1 < 0
    · simp only [if_pos h1, if_pos h2]
      rw [if_neg (by omega)]
      exact j1
    · by_cases h3 : x.f1 ≥ (s.size : Int)
      · simp only [if_pos h1, if_neg h2, if_pos h3]
        rw [if_neg (by omega)]
        exact j1
      · by_cases h4 : x.f2 ≤ x.f1
        · simp only [if_pos h1, if_neg h2, if_neg h3, if_pos h4]
          rw [if_neg (by omega)]
          exact j1
        · simp only [if_pos h1, if_neg h2, if_neg h3, if_neg h4]
          by_cases h5 : x.f2 > (s.size : Int)
          · rw [if_neg (by omega), decide_eq_true h5]
            exact j1
          · rw [if_pos (by omega), decide_eq_false h5]
            refine Ev.step (f := fun _ => some (if bt s x.f1 = 40 ∨ bt s x.f1 = 34 then 8 else 7)) (fun k => ?_) (Ev.now _)
            rw [lex_Bad.j0, if_neg (by simp), if_pos (by omega), if_pos (by omega)]
            by_cases h6 : bt s x.f1 = 40
            · rw [if_pos h6, if_pos (.inl h6)]
            · rw [if_neg h6]
              by_cases h7 : bt s x.f1 = 34
              · rw [if_pos h7, if_pos (.inr h7)]
              · rw [if_neg h7, if_neg (by rintro (h | h) <;> contradiction)]
  · simp only [if_neg h1]
    rw [if_neg (by rintro ⟨h, _⟩; exact h1 h)]
    exact j1
def firstE (s : ByteArray) : List S26 → Int × Int
  | [] => ((s.size : Int), 0)
  | x :: r => if badE s x = 0 then firstE s r else (x.f1, badE s x)
theorem first_l (s : ByteArray) (ts : List S26) (hts : ts.length ≤ 9223372036854775806) : ∀ (r : List S26) (i : Nat), ts.drop i = r → i ≤ ts.length →
    Ev (fun k => lex_First.l0 k s ts (ts.length : Int) (i : Int)) (firstE s r) := by
  intro r
  induction r with
  | nil =>
    intro i h hi
    have : ts.length ≤ i := List.drop_eq_nil_iff.1 h
    exact Ev.step (f := fun _ => some ((s.size : Int), 0)) (fun k => by rw [lex_First.l0, if_neg (by omega)]) (Ev.now _)
  | cons x r ih =>
    intro i h hi
    obtain ⟨hx, hl, hr⟩ := rd_drop ts i x r h
    refine Ev.step (f := fun k => (lex_Bad.f k x.f0 x.f1 x.f2 s).bind fun t => (if t = 0 then lex_First.l0 k s ts (ts.length : Int) ((i + 1 : Nat) : Int) else some (x.f1, t))) (fun k => by rw [lex_First.l0, if_pos (by omega), if_pos (by omega), if_pos (by omega), hx, wrap_nat i (by omega)]) ?_
    refine Ev.bind (f := fun k (t : Int) => (if t = 0 then lex_First.l0 k s ts (ts.length : Int) ((i + 1 : Nat) : Int) else some (x.f1, t))) (bad_ev s x) ?_
    unfold firstE
    by_cases hz : badE s x = 0
    · simp only [if_pos hz]
      exact ih (i + 1) hr (by omega)
    · simp only [if_neg hz]
      exact Ev.now _
theorem scanF_len : ∀ (f : Nat) (l : T), (scanF f l).length ≤ f := by
  intro f
  induction f with
  | zero => intro l; simp [scanF]
  | succ f ih =>
    intro l
    simp only [scanF]
    split
    · simp
    · have := ih (l.drop (tk l).2)
      simp; omega
theorem scan_len (l : T) : (scan l).length ≤ l.length := scanF_len _ _
theorem first_ev (s : ByteArray) (hs : s.size ≤ 1000000) : Ev (fun k => lex_First.f k s) (firstE s (places 0 (scan s.data.toList))) := by
  unfold lex_First.f
  refine Ev.bind (f := fun k (t : List S26) => lex_First.l0 k s t (t.length : Int) 0) (scan_ev s hs) ?_
  refine first_l s _ ?_ _ 0 rfl (Nat.zero_le _)
  have h1 := scan_len s.data.toList
  have h2 := len s
  rw [places_len]
  omega
end Go.Proofs.Ytcccambfcedakaa.Lx
