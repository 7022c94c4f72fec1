/- What one map carries, and another one carries on. -/
import Derived.Test.YthgjieigpfcekaaGrCarry
import Derived.Test.YthgjieigpfcekaaQGx8
namespace Go.Proofs.Ythgjieigpfcekaa.Gr
open Go.RowKit Go.Proofs.Ythgjieigpfcekaa.QG Go.Proofs.YthgjieigpfcekaaW.PrintWords Go.Proofs.YthgjieigpfcekaaW.PrintLast
set_option linter.unusedVariables false
theorem fitGo_tail {E M : List Int} {n : Int} {r : List Int} {i : Int} {S : List Int} (h : fitGo E M (n :: r) i S = true) : fitGo E M r (i + 1) (n :: S) = true ∧ (0 ≤ n → n ∉ S) ∧ -1 ≤ n := by
  rw [fitGo] at h
  split at h
  · cases h
  · rename_i hb
    refine ⟨h, fun h0 hm => hb ?_, ?_⟩
    · unfold fitBad
      rw [List.contains_iff_mem.2 hm, decide_eq_true (show -1 < n by omega)]
      simp
    · rcases Int.lt_or_le n (-1) with hlt | hge
      · exfalso
        refine hb ?_
        unfold fitBad
        rw [decide_eq_true hlt]
        rfl
      · exact hge
theorem toF_keep (E M : List Int) : ∀ (r : List Int) (i : Int) (S : List Int) (F : Int → Option Int) (y : Int), fitGo E M r i S = true → y ∈ S → 0 ≤ y → toF E M r i F y = F y
  | [], _, _, _, _, _, _, _ => rfl
  | n :: r, i, S, F, y, h, hy, h0 => by
    obtain ⟨h1, h2, _⟩ := fitGo_tail h
    rw [toF, toF_keep E M r (i + 1) (n :: S) _ y h1 (List.mem_cons_of_mem _ hy) h0]
    split
    · rename_i hn
      unfold mput
      rw [if_neg (by rintro rfl; exact h2 hn hy)]
    · rfl
theorem toF_at (E M : List Int) : ∀ (r : List Int) (i : Int) (S : List Int) (F : Int → Option Int) (j : Nat), fitGo E M r i S = true → j < r.length → 0 ≤ rd r (j : Int) → toF E M r i F (rd r (j : Int)) = some (rd M (rd E (i + (j : Int))))
  | [], _, _, _, j, _, hj, _ => by simp at hj
  | n :: r, i, S, F, 0, h, hj, h0 => by
    obtain ⟨h1, h2, _⟩ := fitGo_tail h
    rw [rd_zero] at h0 ⊢
    rw [toF, toF_keep E M r (i + 1) (n :: S) _ n h1 (List.mem_cons_self ..) h0, if_pos h0]
    unfold mput
    rw [if_pos rfl, show i + ((0 : Nat) : Int) = i by omega]
  | n :: r, i, S, F, j + 1, h, hj, h0 => by
    obtain ⟨h1, h2, _⟩ := fitGo_tail h
    rw [rd_cons] at h0 ⊢
    rw [toF, toF_at E M r (i + 1) (n :: S) _ j h1 (by simpa using hj) h0, show i + ((j + 1 : Nat) : Int) = i + 1 + (j : Int) by omega]
theorem mostF_ge : ∀ (r : List Int) (a : Int) (j : Nat), j < r.length → 0 ≤ rd r (j : Int) → rd r (j : Int) ≤ mostF r a
  | [], _, j, hj, _ => by simp at hj
  | n :: r, a, 0, _, h0 => by
    rw [rd_zero] at h0 ⊢
    rw [mostF, if_pos h0]
    exact Int.le_trans (by omega) (mostF_mono r (max a n))
  | n :: r, a, j + 1, hj, h0 => by
    rw [rd_cons] at h0 ⊢
    rw [mostF]
    exact mostF_ge r _ j (by simpa using hj) h0
theorem edgeL_rd (F : Int → Option Int) (n : Nat) (x : Int) (h0 : 0 ≤ x) (h1 : x < (n : Int)) : rd (edgeL F n) x = (F x).getD (-1) := by
  obtain ⟨j, rfl⟩ : ∃ j : Nat, x = (j : Int) := ⟨x.toNat, by omega⟩
  rw [rd_nat _ _ (by rw [edgeL_len]; omega)]
  unfold edgeL
  rw [List.getElem_map, List.getElem_range]
/-- What a map that carries says. -/
theorem carB_spec {E : List Int} {L : List PP} {E' : List Int} {L' : List PP} {M : List Int} (h : carB E L E' L' M = true) :
    M.length = E.length ∧ (∀ o : Nat, o < M.length → 0 ≤ rd M (o : Int) → (0 ≤ rd E (o : Int) ∧ rd E (o : Int) < (M.length : Int)) ∧ 0 ≤ rd M (rd E (o : Int)) ∧ rd M (o : Int) < (E'.length : Int) ∧ rd E' (rd M (o : Int)) = rd M (rd E (o : Int))) ∧
    (∀ p ∈ L, (0 ≤ p.f0 ∧ p.f0 < (M.length : Int)) ∧ (0 ≤ p.f1 ∧ p.f1 < (M.length : Int)) ∧ 0 ≤ rd M p.f0 ∧ 0 ≤ rd M p.f1 ∧ (rd M p.f0 ≠ rd M p.f1 → (⟨min (rd M p.f0) (rd M p.f1), max (rd M p.f0) (rd M p.f1)⟩ : PP) ∈ L')) := by
  unfold carB carV at h
  split at h
  · rename_i a b heq
    split at heq
    · rename_i hc
      obtain ⟨hlen, hfit, hlk, hmost⟩ := hc
      simp only [Option.some.injEq, Prod.mk.injEq] at heq
      obtain ⟨rfl, rfl⟩ := heq
      rw [Bool.and_eq_true, Bool.and_eq_true, decide_eq_true_eq, decide_eq_true_eq, edgeGo_iff, edgeL_len] at h
      obtain ⟨h1, h2, h3⟩ := h
      refine ⟨hlen, fun o ho h0 => ?_, fun p hp => ?_⟩
      · obtain ⟨f1, f2⟩ := fitGo_at E M M 0 [] hfit o ho h0
        rw [show (0 : Int) + (o : Int) = (o : Int) by omega] at f1 f2
        have f3 := toF_at E M M 0 [] (fun _ => none) o hfit ho h0
        rw [show (0 : Int) + (o : Int) = (o : Int) by omega] at f3
        have f4 := mostF_ge M (-1) o ho h0
        have f5 := h3 (rd M (o : Int)).toNat (by omega) (by omega)
        rw [show (((rd M (o : Int)).toNat : Nat) : Int) = rd M (o : Int) by omega, edgeL_rd _ _ _ h0 (by omega), f3, Option.getD_some] at f5
        obtain ⟨g1, g2⟩ := inB_true f1
        refine ⟨⟨g1, g2⟩, by omega, by omega, ?_⟩
        rcases f5 with f5 | f5
        · omega
        · exact f5
      · have hf : fitP M p = false := by
          cases hq : fitP M p with
          | false => rfl
          | true => rw [List.any_eq_true.2 ⟨p, hp, hq⟩] at hlk; cases hlk
        unfold fitP at hf
        rw [Bool.or_eq_false_iff, Bool.or_eq_false_iff, Bool.or_eq_false_iff, Bool.not_eq_false', Bool.not_eq_false', decide_eq_false_iff_not, decide_eq_false_iff_not] at hf
        obtain ⟨⟨⟨f1, f2⟩, f3⟩, f4⟩ := hf
        refine ⟨inB_true f1, inB_true f2, by omega, by omega, fun hne => ?_⟩
        rw [← h2, lkL_mem]
        exact ⟨⟨rd M p.f0, rd M p.f1⟩, List.mem_map.2 ⟨p, hp, rfl⟩, hne, rfl⟩
    · cases heq
  · cases h
theorem rd_map (f : Int → Int) (l : List Int) (x : Int) (h0 : 0 ≤ x) (h1 : x < (l.length : Int)) : rd (l.map f) x = f (rd l x) := by
  obtain ⟨j, rfl⟩ : ∃ j : Nat, x = (j : Int) := ⟨x.toNat, by omega⟩
  rw [rd_nat _ _ (by rw [List.length_map]; omega), rd_nat _ _ (by omega), List.getElem_map]
theorem thenX_nn {K : List Int} {x : Int} (h : 0 ≤ thenX K x) : (0 ≤ x ∧ x < (K.length : Int)) ∧ thenX K x = rd K x := by
  unfold thenX at h ⊢
  split at h
  · rename_i hb
    exact ⟨inB_true hb, by rw [if_pos hb]⟩
  · omega
theorem thenX_in {K : List Int} {x : Int} (h0 : 0 ≤ x) (h1 : x < (K.length : Int)) : thenX K x = rd K x := by
  unfold thenX
  rw [if_pos]
  unfold inB
  rw [decide_eq_true h0, decide_eq_true h1]
  rfl
section
variable {Eg : List Int} {Lg : List PP} {Eh : List Int} {Lh : List PP} {Ei : List Int} {Li : List PP} {M K : List Int}
theorem on_edges (c1 : carB Eg Lg Eh Lh M = true) (c2 : carB Eh Lh Ei Li K = true) (o : Nat) (ho : o < M.length) (h0 : 0 ≤ rd (M.map (thenX K)) (o : Int)) :
    rd (M.map (thenX K)) (o : Int) < (Ei.length : Int) ∧ o < Eg.length ∧ (0 ≤ rd Eg (o : Int) ∧ rd Eg (o : Int) < (M.length : Int)) ∧ rd (M.map (thenX K)) (rd Eg (o : Int)) = rd Ei (rd (M.map (thenX K)) (o : Int)) := by
  obtain ⟨a1, a2, a3⟩ := carB_spec c1
  obtain ⟨b1, b2, b3⟩ := carB_spec c2
  rw [rd_map _ _ _ (by omega) (by omega)] at h0 ⊢
  obtain ⟨⟨x0, x1⟩, x2⟩ := thenX_nn h0
  obtain ⟨e1, e2, e3, e4⟩ := a2 o ho x0
  rw [x2] at h0 ⊢
  have f := b2 (rd M (o : Int)).toNat (by omega) (by rw [show (((rd M (o : Int)).toNat : Nat) : Int) = rd M (o : Int) by omega]; exact h0)
  rw [show (((rd M (o : Int)).toNat : Nat) : Int) = rd M (o : Int) by omega] at f
  obtain ⟨f1, f2, f3, f4⟩ := f
  refine ⟨f3, by omega, e1, ?_⟩
  rw [rd_map _ _ _ e1.1 e1.2, ← e4, thenX_in f1.1 f1.2, f4]
theorem on_links (c1 : carB Eg Lg Eh Lh M = true) (c2 : carB Eh Lh Ei Li K = true) (p : PP) (hp : p ∈ Lg) :
    (0 ≤ p.f0 ∧ p.f0 < (M.length : Int)) ∧ (0 ≤ p.f1 ∧ p.f1 < (M.length : Int)) ∧ (0 ≤ rd (M.map (thenX K)) p.f0 → 0 ≤ rd (M.map (thenX K)) p.f1 → rd (M.map (thenX K)) p.f0 ≠ rd (M.map (thenX K)) p.f1 → linkB Li (rd (M.map (thenX K)) p.f0) (rd (M.map (thenX K)) p.f1) = true) := by
  obtain ⟨a1, a2, a3⟩ := carB_spec c1
  obtain ⟨b1, b2, b3⟩ := carB_spec c2
  obtain ⟨e1, e2, e3, e4, e5⟩ := a3 p hp
  refine ⟨e1, e2, ?_⟩
  rw [rd_map _ _ _ e1.1 e1.2, rd_map _ _ _ e2.1 e2.2]
  intro h0 h1 hne
  obtain ⟨⟨x0, x1⟩, x2⟩ := thenX_nn h0
  obtain ⟨⟨y0, y1⟩, y2⟩ := thenX_nn h1
  rw [x2, y2] at hne ⊢
  have hxy : rd M p.f0 ≠ rd M p.f1 := fun e => hne (by rw [e])
  have hq := e5 hxy
  obtain ⟨_, _, _, _, g5⟩ := b3 _ hq
  dsimp only at g5
  rw [linkB_iff]
  have key : ∀ u v : Int, rd K u ≠ rd K v → ((⟨min (rd K u) (rd K v), max (rd K u) (rd K v)⟩ : PP) ∈ Li) → Conn Li (rd K u) (rd K v) := by
    intro u v huv hm
    rcases Int.le_total (rd K u) (rd K v) with hle | hle
    · rw [Int.min_eq_left hle, Int.max_eq_right hle] at hm
      exact Conn.one hm
    · rw [Int.min_eq_right hle, Int.max_eq_left hle] at hm
      exact Conn.two hm
  rcases Int.le_total (rd M p.f0) (rd M p.f1) with hle | hle
  · rw [Int.min_eq_left hle, Int.max_eq_right hle] at g5
    exact key _ _ hne (g5 hne)
  · rw [Int.min_eq_right hle, Int.max_eq_left hle] at g5
    exact (key _ _ (fun e => hne e.symm) (g5 (fun e => hne e.symm))).symm
end
end Go.Proofs.Ythgjieigpfcekaa.Gr
