/- Links of pairs: the document's insertion makes the same row. Built over a test text up to refLk_spec; refLk_eq not yet. -/
import Derived.Test.YthgjieigpfcekaaGrMath
import Derived.Test.YthgjieigpfcekaaQMx7
namespace Go.Proofs.Ythgjieigpfcekaa.Gr
open Go.RowKit Go.Proofs.Ythgjieigpfcekaa.QM Go.Proofs.YthgjieigpfcekaaW.PrintWords Go.Proofs.YthgjieigpfcekaaW.PrintLast
theorem scan_spec (l : List PP) (x : PP) : ∀ k, (∀ i : Nat, scanK l x k ≤ i → i < k → ltP x (rd_T34 l (i : Int)) = true) ∧ (∀ j : Nat, scanK l x k = j + 1 → ltP x (rd_T34 l (j : Int)) = false)
  | 0 => ⟨fun i _ h => by omega, fun j h => by rw [scanK] at h; cases h⟩
  | k + 1 => by
    obtain ⟨h1, h2⟩ := scan_spec l x k
    rw [scanK]
    by_cases h : ltP x (rd_T34 l (k : Int)) = true
    · rw [if_pos h]
      refine ⟨fun i hi hk => ?_, h2⟩
      rcases Nat.lt_or_ge i k with hlt | hge
      · exact h1 i hi hlt
      · rw [show i = k by omega]
        exact h
    · rw [if_neg h]
      exact ⟨fun i hi hk => by omega, fun j hj => by rw [show j = k by omega]; simpa using h⟩
theorem rdP_get (l : List PP) (i : Nat) (h : i < l.length) : rd_T34 l (i : Int) = l[i] := by
  show l.getD i _ = _
  rw [List.getD_eq_getElem?_getD, List.getElem?_eq_getElem h]
  rfl
theorem insR_mem (l : List PP) (x y : PP) : y ∈ insR l x ↔ y ∈ l ∨ (x.f0 ≠ x.f1 ∧ y = x) := by
  unfold insR
  by_cases h1 : x.f0 = x.f1
  · rw [if_pos h1]
    simp [h1]
  · rw [if_neg h1]
    by_cases h2 : 0 < scanK l x l.length ∧ eqP (rd_T34 l ((scanK l x l.length - 1 : Nat) : Int)) x = true
    · rw [if_pos h2]
      have hk := scanK_le l x l.length
      have e := eqP_eq h2.2
      rw [rdP_get l _ (by omega)] at e
      have hx : x ∈ l := by rw [← e]; exact List.getElem_mem _
      constructor
      · exact .inl
      · rintro (h | ⟨_, rfl⟩)
        · exact h
        · exact hx
    · rw [if_neg h2, List.mem_append, List.mem_append, List.mem_singleton]
      have hm : y ∈ l ↔ y ∈ l.take (scanK l x l.length) ∨ y ∈ l.drop (scanK l x l.length) := by
        rw [← List.mem_append, List.take_append_drop]
      rw [hm]
      constructor
      · rintro ((h | h) | h)
        · exact .inl (.inl h)
        · exact .inr ⟨h1, h⟩
        · exact .inl (.inr h)
      · rintro ((h | h) | ⟨_, h⟩)
        · exact .inl (.inl h)
        · exact .inr h
        · exact .inl (.inr h)
theorem ltP_tri {x y : PP} (h1 : ltP x y = false) (h2 : eqP y x = false) : ltP y x = true := by
  rw [← Bool.not_eq_true, ltP_iff] at h1
  rw [ltP_iff]
  unfold eqP at h2
  simp only [Bool.and_eq_false_iff, beq_eq_false_iff_ne] at h2
  omega
theorem ltP_step {x y z : PP} (h : ltP x y = true) (k : ltP y z = true) : ltP x z = true := by
  rw [ltP_iff] at *
  omega
theorem insR_rises (l : List PP) (x : PP) (hl : l.Pairwise fun a b => ltP a b = true) : (insR l x).Pairwise fun a b => ltP a b = true := by
  unfold insR
  by_cases h1 : x.f0 = x.f1
  · rw [if_pos h1]
    exact hl
  · rw [if_neg h1]
    by_cases h2 : 0 < scanK l x l.length ∧ eqP (rd_T34 l ((scanK l x l.length - 1 : Nat) : Int)) x = true
    · rw [if_pos h2]
      exact hl
    · rw [if_neg h2]
      obtain ⟨s1, s2⟩ := scan_spec l x l.length
      have hk := scanK_le l x l.length
      generalize scanK l x l.length = k at *
      have hsplit := hl
      rw [← List.take_append_drop k l, List.pairwise_append] at hsplit
      obtain ⟨p1, p2, p3⟩ := hsplit
      have hbelow : ∀ a ∈ l.take k, ltP a x = true := by
        intro a ha
        obtain ⟨i, hi, rfl⟩ := List.getElem_of_mem ha
        rw [List.length_take] at hi
        have hik : i < k := by omega
        rw [List.getElem_take]
        obtain ⟨j, rfl⟩ : ∃ j, k = j + 1 := ⟨k - 1, by omega⟩
        have hj : j < l.length := by omega
        have t1 := s2 j rfl
        rw [rdP_get l j hj] at t1
        have t2 : eqP l[j] x = false := by
          rw [← Bool.not_eq_true]
          intro h
          exact h2 ⟨by omega, by rw [Nat.add_sub_cancel, rdP_get l j hj]; exact h⟩
        have t3 := ltP_tri t1 t2
        rcases Nat.lt_or_ge i j with hlt | hge
        · exact ltP_step (List.pairwise_iff_getElem.1 hl i j (by omega) hj hlt) t3
        · have : i = j := by omega
          subst this
          exact t3
      rw [List.pairwise_append, List.pairwise_append]
      refine ⟨⟨p1, List.pairwise_singleton _ _, fun a ha b hb => by rw [List.mem_singleton.1 hb]; exact hbelow a ha⟩, p2, fun a ha b hb => ?_⟩
      rcases List.mem_append.1 ha with h | h
      · exact p3 a h b hb
      · rw [List.mem_singleton.1 h]
        obtain ⟨i, hi, rfl⟩ := List.getElem_of_mem hb
        rw [List.length_drop] at hi
        rw [List.getElem_drop]
        have := s1 (k + i) (by omega) (by omega)
        rw [rdP_get l (k + i) (by omega)] at this
        exact this
theorem refLk_spec : ∀ (r l : List PP), (l.Pairwise fun a b => ltP a b = true) → ((refLk l r).Pairwise fun a b => ltP a b = true) ∧ ∀ y, y ∈ refLk l r ↔ y ∈ l ∨ ∃ p ∈ r, p.f0 ≠ p.f1 ∧ y = ⟨min p.f0 p.f1, max p.f0 p.f1⟩
  | [], l, h => ⟨h, fun y => by simp [refLk]⟩
  | q :: r, l, h => by
    obtain ⟨h1, h2⟩ := refLk_spec r (insR l ⟨min q.f0 q.f1, max q.f0 q.f1⟩) (insR_rises l _ h)
    refine ⟨h1, fun y => ?_⟩
    rw [refLk, h2 y, insR_mem]
    have hne : (min q.f0 q.f1 ≠ max q.f0 q.f1) ↔ q.f0 ≠ q.f1 := by omega
    dsimp only
    rw [hne]
    simp only [List.mem_cons, exists_eq_or_imp]
    exact or_assoc
theorem refLk_eq (L : List PP) : refLk [] L = lkL L :=
  rises_ext _ _ (refLk_spec L [] List.Pairwise.nil).1 (lkL_rises L) (fun y => by rw [(refLk_spec L [] List.Pairwise.nil).2 y, lkL_mem]; simp)
end Go.Proofs.Ythgjieigpfcekaa.Gr
