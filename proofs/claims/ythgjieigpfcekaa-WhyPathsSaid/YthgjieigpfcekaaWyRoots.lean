/- Roots: the program's and the document's are one. -/
import Derived.Test.YthgjieigpfcekaaWyRef
import Derived.Test.YthgjieigpfcekaaQWx4
import Derived.Test.YthgjieigpfcekaaQWx10
namespace Go.Proofs.Ythgjieigpfcekaa.Gr
open Go.RowKit Go.Proofs.Ythgjieigpfcekaa.QW Go.Proofs.YthgjieigpfcekaaW.PrintWords Go.Proofs.YthgjieigpfcekaaW.PrintLast Go.Proofs.YthgjieigpfcekaaW.PrintMore
set_option linter.unusedVariables false
/-- Is an edge the least of what it is linked to? -/
noncomputable def leastB (E : List Int) (L : List PP) (e : Int) : Bool := E.all fun x => decide (x ≥ e) || !linkB L x e
/-- The roots. -/
def rootP (E : List Int) (L : List PP) (x : Int) : Prop := x ∈ E ∧ ∀ y ∈ E, Conn L y x → x ≤ y
theorem leastB_iff (E : List Int) (L : List PP) (e : Int) : leastB E L e = true ↔ ∀ y ∈ E, Conn L y e → e ≤ y := by
  unfold leastB
  rw [List.all_eq_true]
  constructor
  · intro h y hy hc
    have := h y hy
    rw [linkB_iff.2 hc, Bool.not_true, Bool.or_false, decide_eq_true_eq] at this
    exact this
  · intro h y hy
    cases hl : linkB L y e with
    | false => simp
    | true =>
      have := h y hy (linkB_iff.1 hl)
      rw [decide_eq_true (show y ≥ e from this)]
      rfl
theorem rootsD_l1 (E : List Int) (L : List PP) (V : List Int) (hE : E.length ≤ 1000000) (hL : L.length ≤ 1000) (acc : List Int) (i : Nat) (hi : i < E.length) (res : List Int) : ∀ (d j : Nat) (t : Bool), E.length - j = d → j ≤ E.length →
    Ev (fun k => if (t && (E.drop j).all fun x => decide (x ≥ E[i]) || !linkB L x E[i]) = true then (orielref32_put.f k acc E[i]).bind fun t281 => orielref32_Roots.l0 k t281 ((i + 1 : Nat) : Int) E L V else orielref32_Roots.l0 k acc ((i + 1 : Nat) : Int) E L V) res →
    Ev (fun k => orielref32_Roots.l1 k acc (i : Int) t (j : Int) E L V) res := by
  intro d
  induction d with
  | zero =>
    intro j t hd hj h
    rw [List.drop_of_length_le (by omega), List.all_nil, Bool.and_true] at h
    refine Ev.step (fun k => ?_) h
    rw [orielref32_Roots.l1, if_neg (by omega), wrap_nat i (by omega)]
    cases t with
    | false => rw [if_neg Bool.false_ne_true, if_neg Bool.false_ne_true]
    | true => rw [if_pos rfl, if_pos rfl, if_pos (by omega), if_pos (by omega), rd_nat _ _ hi]
  | succ d ih =>
    intro j t hd hj h
    have hlt : j < E.length := by omega
    rw [List.drop_eq_getElem_cons hlt, List.all_cons] at h
    cases t with
    | false =>
      refine Ev.step (f := fun k => orielref32_Roots.l1 k acc (i : Int) false ((j + 1 : Nat) : Int) E L V) (fun k => by rw [orielref32_Roots.l1, if_pos (by omega), if_neg Bool.false_ne_true, wrap_nat j (by omega)]) (ih (j + 1) false (by omega) (by omega) ?_)
      rw [Bool.false_and] at h ⊢
      exact h
    | true =>
      rw [Bool.true_and] at h
      by_cases hge : E[j] ≥ E[i]
      · refine Ev.step (f := fun k => orielref32_Roots.l1 k acc (i : Int) true ((j + 1 : Nat) : Int) E L V) (fun k => by rw [orielref32_Roots.l1, if_pos (by omega), if_pos rfl, if_pos (by omega), if_pos (by omega), if_pos (by omega), rd_nat _ _ hi, rd_nat _ _ hlt, if_pos hge, wrap_nat j (by omega)]) (ih (j + 1) true (by omega) (by omega) ?_)
        rw [decide_eq_true hge, Bool.true_or, Bool.true_and] at h
        rw [Bool.true_and]
        exact h
      · refine Ev.via (fun k => by rw [orielref32_Roots.l1, if_pos (by omega), if_pos rfl, if_pos (by omega), if_pos (by omega), if_pos (by omega), rd_nat _ _ hi, rd_nat _ _ hlt, if_neg hge]) (linked_ev L hL E[j] E[i]) ?_
        rw [wrap_nat j (by omega)]
        refine ih (j + 1) _ (by omega) (by omega) ?_
        rw [decide_eq_false hge, Bool.false_or] at h
        exact h
theorem rootsD_l0 (E : List Int) (L : List PP) (V : List Int) (hE : E.length ≤ 1000000) (hL : L.length ≤ 1000) : ∀ (d i : Nat) (acc : List Int), E.length - i = d → i ≤ E.length → RiseI acc → acc.length + d ≤ 100000000 →
    ∃ res, Ev (fun k => orielref32_Roots.l0 k acc (i : Int) E L V) res ∧ RiseI res ∧ ∀ x, x ∈ res ↔ x ∈ acc ∨ (x ∈ E.drop i ∧ leastB E L x = true)
  | 0, i, acc, hd, hi, ha, hb => by
    refine ⟨acc, Ev.step (f := fun _ => some acc) (fun k => by rw [orielref32_Roots.l0, if_neg (by omega)]) (Ev.now _), ha, fun x => ?_⟩
    rw [List.drop_of_length_le (by omega)]
    simp
  | d + 1, i, acc, hd, hi, ha, hb => by
    have hlt : i < E.length := by omega
    obtain ⟨r1, e1, s1, m1, l1⟩ := put_ev acc E[i] ha (by omega)
    cases hq : leastB E L E[i] with
    | true =>
      obtain ⟨res, e2, s2, m2⟩ := rootsD_l0 E L V hE hL d (i + 1) r1 (by omega) (by omega) s1 (by omega)
      refine ⟨res, Ev.step (f := fun k => orielref32_Roots.l1 k acc (i : Int) true ((0 : Nat) : Int) E L V) (fun k => by rw [orielref32_Roots.l0, if_pos (by omega)]; rfl) (rootsD_l1 E L V hE hL acc i hlt res _ 0 true rfl (by omega) ?_), s2, fun x => ?_⟩
      · rw [Bool.true_and, List.drop_zero, show (E.all fun x => decide (x ≥ E[i]) || !linkB L x E[i]) = true from hq]
        simp only [if_true]
        exact Ev.bind e1 e2
      · rw [m2, m1, List.drop_eq_getElem_cons hlt, List.mem_cons]
        constructor
        · rintro ((rfl | h) | ⟨h, h'⟩)
          · exact .inr ⟨.inl rfl, hq⟩
          · exact .inl h
          · exact .inr ⟨.inr h, h'⟩
        · rintro (h | ⟨rfl | h, h'⟩)
          · exact .inl (.inr h)
          · exact .inl (.inl rfl)
          · exact .inr ⟨h, h'⟩
    | false =>
      obtain ⟨res, e2, s2, m2⟩ := rootsD_l0 E L V hE hL d (i + 1) acc (by omega) (by omega) ha (by omega)
      refine ⟨res, Ev.step (f := fun k => orielref32_Roots.l1 k acc (i : Int) true ((0 : Nat) : Int) E L V) (fun k => by rw [orielref32_Roots.l0, if_pos (by omega)]; rfl) (rootsD_l1 E L V hE hL acc i hlt res _ 0 true rfl (by omega) ?_), s2, fun x => ?_⟩
      · rw [Bool.true_and, List.drop_zero, show (E.all fun x => decide (x ≥ E[i]) || !linkB L x E[i]) = false from hq]
        simp only [if_neg Bool.false_ne_true]
        exact e2
      · rw [m2, List.drop_eq_getElem_cons hlt, List.mem_cons]
        constructor
        · rintro (h | ⟨h, h'⟩)
          · exact .inl h
          · exact .inr ⟨.inr h, h'⟩
        · rintro (h | ⟨rfl | h, h'⟩)
          · exact .inl h
          · rw [hq] at h'; cases h'
          · exact .inr ⟨h, h'⟩
theorem rootsD_ev (E : List Int) (L : List PP) (V : List Int) (hE : E.length ≤ 1000000) (hL : L.length ≤ 1000) : ∃ res, Ev (fun k => orielref32_Roots.f k E L V) res ∧ RiseI res ∧ ∀ x, x ∈ res ↔ rootP E L x := by
  obtain ⟨res, e, s, m⟩ := rootsD_l0 E L V hE hL E.length 0 [] (by omega) (by omega) List.Pairwise.nil (by simp only [List.length_nil]; omega)
  refine ⟨res, e, s, fun x => ?_⟩
  rw [m, List.drop_zero, leastB_iff]
  unfold rootP
  simp
/-! ### the program's -/
theorem minOver_spec (E : List Int) : ∀ (fam : List Int) (m : Int), minOver E fam m ≤ m ∧ (∀ x ∈ fam, minOver E fam m ≤ rd E x) ∧ (minOver E fam m = m ∨ ∃ x ∈ fam, minOver E fam m = rd E x)
  | [], m => ⟨Int.le_refl _, fun x hx => (by cases hx), .inl rfl⟩
  | x :: r, m => by
    obtain ⟨h1, h2, h3⟩ := minOver_spec E r (min m (rd E x))
    rw [minOver]
    refine ⟨by omega, fun y hy => ?_, ?_⟩
    · rcases List.mem_cons.1 hy with rfl | hy
      · omega
      · exact h2 y hy
    · rcases h3 with h | ⟨y, hy, h⟩
      · rcases Int.le_total m (rd E x) with hle | hle
        · exact .inl (by rw [h]; omega)
        · exact .inr ⟨x, List.mem_cons_self .., by rw [h]; omega⟩
      · exact .inr ⟨y, List.mem_cons_of_mem _ hy, h⟩
theorem famB_mem (E : List Int) (L : List PP) (o : Nat) (ho : o < E.length) (i : Int) : i ∈ famB E L (o : Int) ↔ ∃ j : Nat, ∃ h : j < E.length, i = (j : Int) ∧ Conn L E[o] E[j] := by
  unfold famB whereL
  rw [if_pos (by omega), Int.toNat_natCast, List.mem_filter, List.mem_map, rd_nat _ _ ho, linkB_iff]
  constructor
  · rintro ⟨⟨j, hj, rfl⟩, hp⟩
    rw [List.mem_range] at hj
    rw [rd_nat _ _ hj] at hp
    exact ⟨j, hj, rfl, hp⟩
  · rintro ⟨j, hj, rfl, hp⟩
    exact ⟨⟨j, List.mem_range.2 hj, rfl⟩, by rw [rd_nat _ _ hj]; exact hp⟩
noncomputable def rootV (E : List Int) (L : List PP) (o : Nat) : Int := minOver E (famB E L (o : Int)) (rd E (o : Int))
theorem rootV_spec (E : List Int) (L : List PP) (o : Nat) (ho : o < E.length) : Conn L E[o] (rootV E L o) ∧ rootP E L (rootV E L o) := by
  obtain ⟨h1, h2, h3⟩ := minOver_spec E (famB E L (o : Int)) (rd E (o : Int))
  have hc : ∃ j : Nat, ∃ h : j < E.length, rootV E L o = E[j] ∧ Conn L E[o] E[j] := by
    rcases h3 with h | ⟨x, hx, h⟩
    · exact ⟨o, ho, by unfold rootV; rw [h, rd_nat _ _ ho], .refl⟩
    · obtain ⟨j, hj, rfl, hp⟩ := (famB_mem E L o ho x).1 hx
      exact ⟨j, hj, by unfold rootV; rw [h, rd_nat _ _ hj], hp⟩
  obtain ⟨j, hj, e, hp⟩ := hc
  refine ⟨by rw [e]; exact hp, by rw [e]; exact List.getElem_mem _, fun y hy hcy => ?_⟩
  obtain ⟨i, hi, rfl⟩ := List.getElem_of_mem hy
  rw [e] at hcy
  have := h2 (i : Int) ((famB_mem E L o ho i).2 ⟨i, hi, rfl, hp.trans hcy.symm⟩)
  rw [rd_nat _ _ hi] at this
  exact this
theorem rootsUp_ev (E : List Int) (L : List PP) (V : List Int) (hE : E.length ≤ 1000000) (hL : L.length ≤ 1000) (hok : E.all okI = true) (hokL : okL L = true) : ∀ n : Nat, n ≤ E.length → Ev (fun k => rootsUp k E L V n) ((List.range n).map (rootV E L))
  | 0, _ => Ev.now _
  | n + 1, hn => by
    have ih := rootsUp_ev E L V hE hL hok hokL n (by omega)
    rw [List.range_succ, List.map_append, List.map_singleton]
    unfold rootsUp
    refine Ev.bind ih ?_
    unfold rootAt
    have hall : ((famB E L (n : Int)).all fun x => decide (0 ≤ x) && decide (x < (E.length : Int))) = true := by
      rw [List.all_eq_true]
      intro x hx
      obtain ⟨j, hj, rfl, _⟩ := (famB_mem E L n (by omega) x).1 hx
      rw [decide_eq_true (show (0 : Int) ≤ (j : Int) by omega), decide_eq_true (show (j : Int) < (E.length : Int) by omega)]
      rfl
    refine Ev.bind (a := rootV E L n) (Ev.bind (family_ev E L V hE hL hok hokL (n : Int)) ?_) (Ev.now _)
    simp only [if_pos hall]
    exact Ev.now _
theorem roots_ev (E : List Int) (L : List PP) (V : List Int) (hE : E.length ≤ 1000000) (hL : L.length ≤ 1000) (hok : E.all okI = true) (hokL : okL L = true) : ∃ res, Ev (fun k => why_Roots.f k E L V) res ∧ RiseI res ∧ (∀ x, x ∈ res ↔ rootP E L x) ∧ res.length ≤ E.length := by
  obtain ⟨hr, hm⟩ := sortc_spec ((List.range E.length).map (rootV E L))
  refine ⟨_, ?_, hr, fun x => ?_, ?_⟩
  · unfold why_Roots.f
    simp only [if_pos hE]
    exact Ev.bind (rootsUp_ev E L V hE hL hok hokL E.length (Nat.le_refl _)) (Ev.now _)
  · rw [hm, List.mem_map]
    constructor
    · rintro ⟨o, ho, rfl⟩
      exact (rootV_spec E L o (List.mem_range.1 ho)).2
    · rintro ⟨hx, hle⟩
      obtain ⟨o, ho, rfl⟩ := List.getElem_of_mem hx
      obtain ⟨h1, h2⟩ := rootV_spec E L o ho
      have a1 := hle _ h2.1 h1.symm
      have a2 := h2.2 _ (List.getElem_mem ho) h1
      exact ⟨o, List.mem_range.2 ho, by omega⟩
  · have := nodup_sub_len _ E (rise_nodup hr) fun x hx => by
      obtain ⟨o, ho, rfl⟩ := List.mem_map.1 ((hm x).1 hx)
      exact (rootV_spec E L o (List.mem_range.1 ho)).2.1
    exact this
/-- The two are one. -/
theorem roots_one (E : List Int) (L : List PP) (V : List Int) (hE : E.length ≤ 1000000) (hL : L.length ≤ 1000) (hok : E.all okI = true) (hokL : okL L = true) : ∃ res, Ev (fun k => why_Roots.f k E L V) res ∧ Ev (fun k => orielref32_Roots.f k E L V) res ∧ res.length ≤ E.length := by
  obtain ⟨r1, e1, s1, m1, l1⟩ := roots_ev E L V hE hL hok hokL
  obtain ⟨r2, e2, s2, m2⟩ := rootsD_ev E L V hE hL
  have : r2 = r1 := riseI_ext r2 r1 s2 s1 fun x => by rw [m1, m2]
  rw [this] at e2
  exact ⟨r1, e1, e2, l1⟩
end Go.Proofs.Ythgjieigpfcekaa.Gr
