/- Graphs: whether one is right, as the program and as the document see it; the chapter's example. -/
import Derived.Test.YthgjieigpfcekaaGrEv
import Derived.Test.YthgjieigpfcekaaQGx6
import Derived.Test.YthgjieigpfcekaaQGx9
namespace Go.Proofs.Ythgjieigpfcekaa.Gr
open Go.RowKit Go.Proofs.Ythgjieigpfcekaa.QG Go.Proofs.YthgjieigpfcekaaW.PrintWords Go.Proofs.YthgjieigpfcekaaW.PrintLast
abbrev OO := S92
theorem rdO_nat (l : List OO) (n : Nat) (h : n < l.length) : rd_T92 l (n : Int) = l[n] := by
  show l.getD n _ = _
  rw [List.getD_eq_getElem?_getD, List.getElem?_eq_getElem h]
  rfl
def rightB (E : List Int) (L : List PP) (V : List Int) (l : List OO) : Bool := decide (E.length = l.length ∧ V.length = l.length) && (rightGo E V l l 0 && (rightPs l L && eqL L (lkL L)))
theorem links_f (k : Nat) (L : List PP) (h : L.length ≤ 1000000) : match_Links.f k L = some (lkL L) := by unfold match_Links.f; rw [if_pos h]
theorem right_f (k : Nat) (E : List Int) (L : List PP) (V : List Int) (l : List OO) (h : L.length ≤ 1000000) : graph_Right.f k E L V l = some (rightB E L V l) := by
  unfold graph_Right.f rightB
  by_cases h1 : E.length = l.length ∧ V.length = l.length
  · rw [if_pos h1, decide_eq_true h1, Bool.true_and]
    cases h2 : rightGo E V l l 0 with
    | false => rfl
    | true =>
      rw [if_pos rfl, Bool.true_and]
      cases h3 : rightPs l L with
      | false => rfl
      | true => rw [if_pos rfl, Bool.true_and, links_f k L h]; rfl
  · rw [if_neg h1, decide_eq_false h1]
    rfl
/-! ### the document's -/
theorem ltP_trans {x y z : PP} (h : ltP x y = true) (k : ltP y z = true) : ltP x z = true := by
  rw [ltP_lt] at *
  omega
theorem refGo_iff (l : List OO) : ∀ (r : List PP) (q : Option PP), refGo l q r = true ↔ (∀ p ∈ r, okP l p = true) ∧ (∀ x, q = some x → ∀ p ∈ r, ltP x p = true) ∧ Rises r
  | [], q => by simp [refGo]
  | p :: r, q => by
    rw [refGo, Bool.and_eq_true, Bool.and_eq_true, refGo_iff l r (some p)]
    constructor
    · rintro ⟨h1, h2, h3, h4, h5⟩
      refine ⟨fun x hx => ?_, fun x hq y hy => ?_, List.pairwise_cons.2 ⟨h4 p rfl, h5⟩⟩
      · rcases List.mem_cons.1 hx with rfl | hx
        · exact h1
        · exact h3 x hx
      · subst hq
        rcases List.mem_cons.1 hy with rfl | hy
        · exact h2
        · exact ltP_trans h2 (h4 p rfl y hy)
    · rintro ⟨h1, h2, h3⟩
      rw [Rises, List.pairwise_cons] at h3
      refine ⟨h1 p (by simp), ?_, fun x hx => h1 x (by simp [hx]), fun x hx y hy => ?_, h3.2⟩
      · unfold aheadP
        cases q with
        | none => rfl
        | some x => exact h2 x rfl p (by simp)
      · cases hx
        exact h3.1 y hy
theorem rightP_iff (l : List OO) (p : PP) : rightP l p = false ↔ ((0 ≤ p.f0 ∧ p.f0 < (l.length : Int)) ∧ (rd_T92 l p.f0).f4 = true) ∧ (0 ≤ p.f1 ∧ p.f1 < (l.length : Int)) ∧ (rd_T92 l p.f1).f4 = true ∧ (rd_T92 l p.f1).f3 = (rd_T92 l p.f0).f3 := by
  unfold rightP
  rw [Bool.or_eq_false_iff, Bool.or_eq_false_iff, Bool.not_eq_false', Bool.not_eq_false', Bool.not_eq_false', decB_iff, decB_iff]
  constructor
  · rintro ⟨⟨_, h2⟩, h3⟩
    exact ⟨⟨h2.1, h2.2.1⟩, h3⟩
  · rintro ⟨h2, h3⟩
    refine ⟨⟨?_, h2.1, h2.2, rfl⟩, h3⟩
    unfold inB
    simp [h2.1.1, h2.1.2]
theorem rightPs_iff (l : List OO) : ∀ L : List PP, rightPs l L = true ↔ ∀ p ∈ L, rightP l p = false
  | [] => by simp [rightPs]
  | p :: r => by
    rw [rightPs]
    cases h : rightP l p with
    | true => simp [h]
    | false =>
      rw [if_neg (by simp), rightPs_iff l r]
      simp [h]
theorem pairs_same (l : List OO) (L : List PP) : (rightPs l L && eqL L (lkL L)) = refGo l none L := by
  rw [Bool.eq_iff_iff, Bool.and_eq_true, rightPs_iff, eqL_iff, refGo_iff]
  constructor
  · rintro ⟨h1, h2⟩
    refine ⟨fun p hp => ?_, ⟨fun x hx => (by cases hx), (by rw [h2]; exact lkL_rises L)⟩⟩
    have hlt := lkL_lt L p (by rw [← h2]; exact hp)
    obtain ⟨⟨⟨a1, a2⟩, a3⟩, ⟨b1, b2⟩, b3, b4⟩ := (rightP_iff l p).1 (h1 p hp)
    unfold okP
    simp [a1, a3, b2, b3, b4, hlt]
  · rintro ⟨h1, _, h3⟩
    have hall : ∀ p ∈ L, rightP l p = false ∧ p.f0 < p.f1 := by
      intro p hp
      have := h1 p hp
      unfold okP at this
      simp only [Bool.and_eq_true, decide_eq_true_eq] at this
      obtain ⟨c1, c2, c3, c4, c5, c6⟩ := this
      exact ⟨(rightP_iff l p).2 ⟨⟨⟨c1, by omega⟩, c4⟩, ⟨by omega, c2⟩, c5, c6.symm⟩, c3⟩
    exact ⟨fun p hp => (hall p hp).1, (lkL_id L (fun p hp => (hall p hp).2) h3).symm⟩
theorem rright_f (E : List Int) (L : List PP) (V : List Int) (l : List OO) : orielref15_Right.f E L V l = some (rightB E L V l) := by
  unfold orielref15_Right.f rightB
  by_cases h1 : E.length = l.length ∧ V.length = l.length
  · rw [if_pos h1, decide_eq_true h1, Bool.true_and, pairs_same]
  · rw [if_neg h1, decide_eq_false h1]
    rfl
end Go.Proofs.Ythgjieigpfcekaa.Gr
