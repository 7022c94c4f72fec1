/- Graphs, carried. -/
import Derived.Test.YthgjieigpfcekaaGrRight
import Derived.Test.YthgjieigpfcekaaQGx8
namespace Go.Proofs.Ythgjieigpfcekaa.Gr
open Go.RowKit Go.Proofs.Ythgjieigpfcekaa.QG Go.Proofs.YthgjieigpfcekaaW.PrintWords Go.Proofs.YthgjieigpfcekaaW.PrintLast
abbrev pairsEq := api_Pair_63.f
theorem pair_ext {p q : PP} : p = q ↔ p.f0 = q.f0 ∧ p.f1 = q.f1 := by
  obtain ⟨a, b⟩ := p
  obtain ⟨c, d⟩ := q
  constructor
  · intro h; cases h; exact ⟨rfl, rfl⟩
  · rintro ⟨h1, h2⟩
    dsimp only at h1 h2
    rw [h1, h2]
instance : DecidableEq PP := fun p q => decidable_of_iff (p.f0 = q.f0 ∧ p.f1 = q.f1) pair_ext.symm
theorem pairs_loop (a b : List PP) (hb : b.length = a.length) (ha : a.length ≤ 1000000000) : ∀ d n : Nat, a.length - n = d → n ≤ a.length →
    Ev (fun k => api_Pair_63.l0 k a b (a.length : Int) (n : Int)) (decide (a.drop n = b.drop n)) := by
  intro d
  induction d with
  | zero =>
    intro n hd hn
    rw [List.drop_of_length_le (by omega), List.drop_of_length_le (by omega)]
    exact Ev.step (f := fun _ => some true) (fun k => by rw [api_Pair_63.l0, if_neg (by omega)]) (Ev.now _)
  | succ d ih =>
    intro n hd hn
    have h1 : n < a.length := by omega
    have h2 : n < b.length := by omega
    rw [List.drop_eq_getElem_cons h1, List.drop_eq_getElem_cons h2]
    by_cases he : a[n] = b[n]
    · have := ih (n + 1) (by omega) (by omega)
      refine Ev.step (f := fun k => api_Pair_63.l0 k a b (a.length : Int) ((n + 1 : Nat) : Int)) (fun k => by rw [api_Pair_63.l0, if_pos (by omega), if_pos (by omega), if_pos (by omega), if_pos (by omega), rdP_nat _ _ h1, rdP_nat _ _ h2, if_neg (by rw [he]; simp), wrap_nat n (by omega)]) ?_
      rw [decide_eq_decide.2 (show (a[n] :: a.drop (n + 1) = b[n] :: b.drop (n + 1)) ↔ a.drop (n + 1) = b.drop (n + 1) by rw [he, List.cons.injEq]; exact ⟨fun h => h.2, fun h => ⟨rfl, h⟩⟩)]
      exact this
    · refine Ev.step (f := fun _ => some false) (fun k => by rw [api_Pair_63.l0, if_pos (by omega), if_pos (by omega), if_pos (by omega), if_pos (by omega), rdP_nat _ _ h1, rdP_nat _ _ h2, if_pos (by
        rw [pair_ext] at he
        cases h3 : (a[n].f0 == b[n].f0) with
        | false => rfl
        | true =>
          cases h4 : (a[n].f1 == b[n].f1) with
          | false => rfl
          | true => exact absurd ⟨beq_iff_eq.1 h3, beq_iff_eq.1 h4⟩ he)]) ?_
      rw [decide_eq_false (fun h => he (List.cons.inj h).1)]
      exact Ev.now _
theorem pairs_ev (a b : List PP) (ha : a.length ≤ 1000000000) : Ev (fun k => api_Pair_63.f k a b) (decide (a = b)) := by
  unfold api_Pair_63.f
  by_cases h : b.length = a.length
  · simp only [if_pos (show (a.length : Int) = (b.length : Int) by omega)]
    exact pairs_loop a b h ha a.length 0 (by omega) (by omega)
  · simp only [if_neg (show ¬ (a.length : Int) = (b.length : Int) by omega)]
    rw [decide_eq_false (fun e => h (by rw [e]))]
    exact Ev.now _
/-- What a map makes of a graph. -/
def carV (E : List Int) (L : List PP) (M : List Int) : Option (List Int × List PP) :=
  if M.length = E.length ∧ fitGo E M M 0 [] = true ∧ L.any (fitP M) = false ∧ mostF M (-1) < 16777216 then some (edgeL (toF E M M 0 fun _ => none) (mostF M (-1) + 1).toNat, lkL (carL M L)) else none
theorem carL_len (M : List Int) (L : List PP) : (carL M L).length = L.length := by simp [carL]
theorem carry_f (k : Nat) (E : List Int) (L : List PP) (V M : List Int) (hL : L.length ≤ 1000000) (hM : M.all okI = true) (hMl : M.length ≤ 16777216) :
    graph_Carry.f k E L V M = some (match carV E L M with | some (a, b) => (a, b, true) | none => ([], [], false)) := by
  unfold graph_Carry.f carV graph_fits.f
  by_cases h1 : M.length = E.length
  · rw [if_pos h1, if_pos ⟨hM, hMl⟩, Option.bind_some]
    cases h2 : fitGo E M M 0 [] with
    | false =>
      simp
    | true =>
      rw [if_pos rfl]
      cases h3 : L.any (fitP M) with
      | true => simp
      | false =>
        rw [if_pos (by rfl), if_pos hL]
        by_cases h4 : mostF M (-1) ≥ 16777216
        · rw [if_pos h4, if_neg (fun h => by have := h.2.2.2; omega)]
        · rw [if_neg h4, if_pos ⟨h1, rfl, rfl, by omega⟩, links_f k _ (by rw [carL_len]; exact hL)]
          rfl
  · simp [h1]
/-- Do the edges that a map makes stand in a graph? -/
def edgeGo (e E : List Int) : Nat → Nat → Bool
  | 0, _ => true
  | d + 1, i => (decide (rd e (i : Int) = -1) || decide (rd E (i : Int) = rd e (i : Int))) && edgeGo e E d (i + 1)
theorem edgeGo_iff (e E : List Int) : ∀ d i : Nat, edgeGo e E d i = true ↔ ∀ j, i ≤ j → j < i + d → rd e (j : Int) = -1 ∨ rd E (j : Int) = rd e (j : Int)
  | 0, i => by simp [edgeGo]; omega
  | d + 1, i => by
    rw [edgeGo, Bool.and_eq_true, Bool.or_eq_true, decide_eq_true_iff, decide_eq_true_iff, edgeGo_iff e E d (i + 1)]
    constructor
    · rintro ⟨h1, h2⟩ j hj hj2
      rcases Nat.eq_or_lt_of_le hj with rfl | hlt
      · exact h1
      · exact h2 j (by omega) (by omega)
    · intro h
      exact ⟨h i (Nat.le_refl _) (by omega), fun j hj hj2 => h j (by omega) (by omega)⟩
def carB (E : List Int) (L : List PP) (E' : List Int) (L' : List PP) (M : List Int) : Bool := match carV E L M with
  | some (a, b) => decide (a.length ≤ E'.length) && (decide (b = L') && edgeGo a E' a.length 0)
  | none => false
theorem carries_loop (e E : List Int) (L : List PP) (V : List Int) (he : e.length ≤ E.length) (hl : e.length ≤ 100000000) : ∀ d n : Nat, e.length - n = d → n ≤ e.length →
    Ev (fun k => graph_Carries.l0 k e (e.length : Int) (n : Int) E L V) (edgeGo e E d n) := by
  intro d
  induction d with
  | zero =>
    intro n hd hn
    exact Ev.step (f := fun _ => some true) (fun k => by rw [graph_Carries.l0, if_neg (by omega)]) (Ev.now _)
  | succ d ih =>
    intro n hd hn
    have ihn := ih (n + 1) (by omega) (by omega)
    rw [edgeGo]
    by_cases h1 : rd e (n : Int) = -1
    · rw [decide_eq_true h1, Bool.true_or, Bool.true_and]
      exact Ev.step (f := fun k => graph_Carries.l0 k e (e.length : Int) ((n + 1 : Nat) : Int) E L V) (fun k => by rw [graph_Carries.l0, if_pos (by omega), if_pos (by omega), if_pos (by omega), if_pos h1, wrap_nat n (by omega)]) ihn
    · by_cases h2 : rd E (n : Int) = rd e (n : Int)
      · rw [decide_eq_true h2, Bool.or_true, Bool.true_and]
        exact Ev.step (f := fun k => graph_Carries.l0 k e (e.length : Int) ((n + 1 : Nat) : Int) E L V) (fun k => by rw [graph_Carries.l0, if_pos (by omega), if_pos (by omega), if_pos (by omega), if_neg h1, if_pos (by omega), if_pos h2, wrap_nat n (by omega)]) ihn
      · rw [decide_eq_false h1, decide_eq_false h2, Bool.or_false, Bool.false_and]
        exact Ev.step (f := fun _ => some false) (fun k => by rw [graph_Carries.l0, if_pos (by omega), if_pos (by omega), if_pos (by omega), if_neg h1, if_pos (by omega), if_neg h2]) (Ev.now _)
theorem dd_len : ∀ l : List PP, (dd l).length ≤ l.length
  | [] => Nat.le_refl _
  | [x] => Nat.le_refl _
  | x :: y :: r => by
    rw [dd]
    have := dd_len (y :: r)
    split
    · simp at this ⊢; omega
    · simp at this ⊢; omega
theorem lkL_len (L : List PP) : (lkL L).length ≤ L.length := by
  unfold lkL
  refine Nat.le_trans (dd_len _) ?_
  rw [List.length_mergeSort]
  exact lk_len L
theorem carries_ev (E : List Int) (L : List PP) (V E' : List Int) (L' : List PP) (V' M : List Int) (hL : L.length ≤ 1000000) (hM : M.all okI = true) (hMl : M.length ≤ 16777216) : Ev (fun k => graph_Carries.f k E L V E' L' V' M) (carB E L E' L' M) := by
  have bad : ∀ e : List Int, Ev (fun k => graph_Carries.j0 k e true E' L' V') false := fun e => Ev.step (f := fun _ => some false) (fun k => by rw [graph_Carries.j0, if_pos rfl]) (Ev.now _)
  unfold graph_Carries.f carB
  simp only [carry_f _ E L V M hL hM hMl, Option.bind_some]
  cases hc : carV E L M with
  | none =>
    simp only [if_neg Bool.false_ne_true]
    exact bad _
  | some ab =>
    obtain ⟨a, b⟩ := ab
    have hbl : a.length ≤ 100000000 ∧ b.length ≤ 1000000 := by
      unfold carV at hc
      split at hc
      · rename_i h
        simp only [Option.some.injEq, Prod.mk.injEq] at hc
        obtain ⟨rfl, rfl⟩ := hc
        exact ⟨by rw [edgeL_len]; omega, Nat.le_trans (lkL_len _) (by rw [carL_len]; exact hL)⟩
      · cases hc
    simp only [if_true]
    by_cases h1 : a.length ≤ E'.length
    · simp only [if_neg (show ¬ (a.length : Int) > (E'.length : Int) by omega)]
      refine Ev.bind (pairs_ev b L' (by omega)) ?_
      rw [decide_eq_true h1, Bool.true_and]
      by_cases h2 : b = L'
      · rw [decide_eq_true h2, Bool.true_and]
        exact Ev.step (f := fun k => graph_Carries.l0 k a (a.length : Int) ((0 : Nat) : Int) E' L' V') (fun k => by rw [graph_Carries.j0, if_neg (by simp)]; rfl) (carries_loop a E' L' V' h1 hbl.1 a.length 0 (by omega) (by omega))
      · rw [decide_eq_false h2, Bool.false_and]
        exact bad _
    · simp only [if_pos (show (a.length : Int) > (E'.length : Int) by omega)]
      rw [decide_eq_false h1, Bool.false_and]
      exact bad _
end Go.Proofs.Ythgjieigpfcekaa.Gr
