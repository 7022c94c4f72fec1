/- The law SpellTells, in plain words. -/
import Derived.Test.YtfccifekaokibaaGreatDoorQTx19
import Derived.Test.YtfccifekaokibaaGreatDoorQTx18
import Derived.Test.YtfccifekaokibaaGreatDoorStNew
import Derived.Test.YtfccifekaokibaaGreatDoorSpAlive
namespace Go.Proofs.YtfccifekaokibaaGreatDoor.Pure
open Go.RowKit Go.Proofs.YtfccifekaokibaaGreatDoor.QT Go.Proofs.YtfccifekaokibaaGreatDoorW.PrintWords Go.Proofs.YtfccifekaokibaaGreatDoorW.PrintLast Oriel.Lx Go.Proofs.YtfccifekaokibaaGreatDoor.Lx Go.Proofs.YtfccifekaokibaaGreatDoor.Sp Go.Proofs.YtfccifekaokibaaGreatDoor.Rf
def kd (s : ByteArray) : Bool := decide (kindT s.data.toList = 6 ∨ kindT s.data.toList = 7 ∨ kindT s.data.toList = 9)
theorem self_kd (s : ByteArray) : alikeT s.data.toList s.data.toList = kd s := by
  rw [alike_refl]
  unfold mayT kd
  by_cases h6 : kindT s.data.toList = 6
  · simp [h6]
  · by_cases h7 : kindT s.data.toList = 7
    · simp [h7]
    · by_cases h9 : kindT s.data.toList = 9
      · simp [h9]
      · simp [h6, h7, h9]
theorem pl_ev (l : List F) (h : FewF l) (s : ByteArray) (hs : s.size ≤ 100) : Ev (fun k => spell_Places.f k s l) (Gp (spellP 0 l) s.data.toList) := by
  unfold spell_Places.f
  simp only [if_pos (show s.size ≤ 1000000 by omega)]
  exact Ev.bind (f := fun _ P => some (Gp P s.data.toList)) (spelled_ev l h) (Ev.now _)
theorem fr_ev (l : List F) (h : FewF l) (s : ByteArray) (hs : s.size ≤ 100) : Ev (fun k => spell_Free.f k s l) (kd s && decide ((Gp (spellP 0 l) s.data.toList).length = 0)) := by
  unfold spell_Free.f
  have ha := alike_ev s s (by omega) (by omega)
  rw [self_kd] at ha
  refine Ev.bind (f := fun k t => if t = true then (if s.size ≤ 1000000 then (spell_spelled.f k l).bind fun P => some (decide ((Gp P s.data.toList).length = 0)) else none) else some false) ha ?_
  cases kd s with
  | false => exact Ev.now _
  | true =>
    simp only [if_true, if_pos (show s.size ≤ 1000000 by omega), Bool.true_and]
    exact Ev.bind (f := fun _ P => some (decide ((Gp P s.data.toList).length = 0))) (spelled_ev l h) (Ev.now _)
theorem pl_len (l : List F) (h : FewF l) (x : T) : (Gp (spellP 0 l) x).length ≤ 200000 := by
  have h1 := spellP_len 10000 l 0 h.2
  have h4 := h.1
  unfold Gp
  rw [List.length_map]
  exact Nat.le_trans (List.length_filter_le _ _) (by omega)
theorem j2_ev (l : List F) (h : FewF l) (s : ByteArray) (hs : s.size ≤ 100) (a : ByteArray) (b : Bool) : Ev (fun k => oriellaw16_SpellTells.j2 k l s a b a b (Gp (spellP 0 l) s.data.toList) (kd s)) true := by
  obtain ⟨K1, e1⟩ := taken_ev l h
  obtain ⟨K2, e2⟩ := xtaken_ev l h
  obtain ⟨K3, e3⟩ := texts_ev ((keysL l).map ofL) (by have := keysL_len l h; rw [List.length_map]; omega)
  obtain ⟨K4, e4⟩ := fr_ev l h s hs
  obtain ⟨K5, e5⟩ := alive16
  refine ⟨K1 + K2 + K3 + K4 + K5 + 1, fun k hk => ?_⟩
  obtain ⟨k, rfl⟩ : ∃ q, k = q + 1 := ⟨k - 1, by omega⟩
  have f1 := e1 k (by omega)
  have f2 := e2 k (by omega)
  have f3 := e3 k (by omega)
  have f4 := e4 k (by omega)
  have f5 := e5 k (by omega)
  dsimp only at f1 f2 f3 f4 f5 ⊢
  rw [oriellaw16_SpellTells.j2, if_pos rfl, if_pos (by simp), f1, Option.bind_some, f2, Option.bind_some, f3, Option.bind_some, if_pos rfl, f4, Option.bind_some]
  cases kd s with
  | true =>
    rw [if_pos rfl, if_pos, f5]
    · rfl
    · rw [Bool.true_and, beq_iff_eq]
      by_cases hz : (Gp (spellP 0 l) s.data.toList).length = 0
      · rw [decide_eq_true hz, hz]; rfl
      · rw [decide_eq_false hz, Eq.comm, beq_eq_false_iff_ne]; omega
  | false =>
    rw [if_neg (by simp), if_pos (by simp), f5]
    rfl
theorem l0_ev (l : List F) (h : FewF l) (s : ByteArray) (hs : s.size ≤ 100) (a : ByteArray) (b : Bool) (P : List Pl) (hP : P = Gp (spellP 0 l) s.data.toList) : ∀ d n : Nat, P.length - n = d → n ≤ P.length →
    Ev (fun k => oriellaw16_SpellTells.l0 k l s a b a b P P (P.length : Int) (n : Int)) true := by
  have hl := pl_len l h s.data.toList
  rw [← hP] at hl
  intro d
  induction d with
  | zero =>
    intro n hd hn
    have hk := rkind_ev s (by omega)
    have hj := j2_ev l h s hs a b
    rw [← hP] at hj
    refine Ev.step (f := fun k => (orielref04_Kind.f k s).bind fun t => (if t = 6 then (oriellaw16_SpellTells.j2 k l s a b a b P true) else (if t = 7 then (oriellaw16_SpellTells.j2 k l s a b a b P true) else (oriellaw16_SpellTells.j2 k l s a b a b P (t == 9))))) (fun k => by rw [oriellaw16_SpellTells.l0, if_neg (by omega)]) ?_
    refine Ev.bind (f := fun k (t : Int) => (if t = 6 then (oriellaw16_SpellTells.j2 k l s a b a b P true) else (if t = 7 then (oriellaw16_SpellTells.j2 k l s a b a b P true) else (oriellaw16_SpellTells.j2 k l s a b a b P (t == 9))))) hk ?_
    unfold kd at hj
    by_cases h6 : kindT s.data.toList = 6
    · simp only [if_pos h6]
      rw [decide_eq_true (.inl h6)] at hj
      exact hj
    · simp only [if_neg h6]
      by_cases h7 : kindT s.data.toList = 7
      · simp only [if_pos h7]
        rw [decide_eq_true (.inr (.inl h7))] at hj
        exact hj
      · simp only [if_neg h7]
        by_cases h9 : kindT s.data.toList = 9
        · rw [decide_eq_true (.inr (.inr h9))] at hj
          rw [h9]
          exact hj
        · rw [decide_eq_false (by omega)] at hj
          rw [show (kindT s.data.toList == 9) = false by simpa using h9]
          exact hj
  | succ d ih =>
    intro n hd hn
    refine Ev.step (f := fun k => oriellaw16_SpellTells.l0 k l s a b a b P P (P.length : Int) ((n + 1 : Nat) : Int)) (fun k => ?_) (ih (n + 1) (by omega) (by omega))
    rw [oriellaw16_SpellTells.l0, if_pos (by omega), if_pos (by omega), if_pos (by omega), if_pos (by omega), if_neg (by simp), wrap_nat n (by omega)]
theorem law_ev (l : List F) (h : FewF l) (s : ByteArray) (hs : s.size ≤ 100) (a : ByteArray × Bool) (h1 : Ev (fun k => spell_Fresh.f k s l) a) (h2 : Ev (fun k => orielref16_Fresh.f k s l) a) : Ev (fun k => oriellaw16_SpellTells.j0 k l s false) true := by
  obtain ⟨a, b⟩ := a
  obtain ⟨K1, e1⟩ := h1
  obtain ⟨K2, e2⟩ := h2
  obtain ⟨K3, e3⟩ := pl_ev l h s hs
  obtain ⟨K4, e4⟩ := xplaces_ev l h s
  obtain ⟨K5, e5⟩ := l0_ev l h s hs a b _ rfl _ 0 rfl (by omega)
  refine ⟨K1 + K2 + K3 + K4 + K5 + 1, fun k hk => ?_⟩
  obtain ⟨k, rfl⟩ : ∃ q, k = q + 1 := ⟨k - 1, by omega⟩
  have f1 := e1 k (by omega)
  have f2 := e2 k (by omega)
  have f3 := e3 k (by omega)
  have f4 := e4 k (by omega)
  have f5 := e5 k (by omega)
  dsimp only at f1 f2 f3 f4 f5 ⊢
  rw [oriellaw16_SpellTells.j0, if_neg Bool.false_ne_true, f1, Option.bind_some, f2, Option.bind_some, f3, Option.bind_some, f4, Option.bind_some, if_pos rfl]
  exact f5
theorem SpellTells (l : List F) (s : ByteArray) (_ : ∀ f ∈ l, f.f0.size ≤ maxLen ∧ f.f1.size ≤ maxLen) (_ : s.size ≤ 140737488351232) : ∃ k, oriellaw16_SpellTells.f k l s = some true := by
  refine Ev.rounds (g := fun k => oriellaw16_SpellTells.f k l s) ?_
  have skip : Ev (fun k => oriellaw16_SpellTells.j0 k l s true) true := by
    refine Ev.step (f := fun k => (oriellaw16_alive.f k).bind fun t192 => some t192) (fun k => by rw [oriellaw16_SpellTells.j0, if_pos rfl]) ?_
    exact Ev.bind (f := fun _ t => some t) alive16 (Ev.now _)
  obtain ⟨b, h1, h2⟩ := few_ev l
  unfold oriellaw16_SpellTells.f
  refine Ev.bind (f := fun k t191 => if t191 = true then (oriellaw16_SpellTells.j0 k l s (decide ((s.size : Int) > 100))) else (oriellaw16_SpellTells.j0 k l s true)) h1 ?_
  cases b with
  | false =>
    simp only [Bool.false_eq_true, if_false]
    exact skip
  | true =>
    simp only [if_true]
    have h := h2 rfl
    by_cases hs : (s.size : Int) > 100
    · rw [decide_eq_true hs]
      exact skip
    · rw [decide_eq_false hs]
      have hs2 : s.size ≤ 100 := by omega
      have key : ∃ a : ByteArray × Bool, Ev (fun k => spell_Fresh.f k s l) a ∧ Ev (fun k => orielref16_Fresh.f k s l) a := by
        by_cases h6 : kindT s.data.toList = 6
        · exact word_both l h s hs2 1 false (.inl ⟨rfl, rfl⟩) h6
        · by_cases h7 : kindT s.data.toList = 7
          · exact word_both l h s hs2 4 true (.inr ⟨rfl, rfl⟩) h7
          · by_cases h9 : kindT s.data.toList = 9
            · exact sign_both l h s hs2 h9
            · exact none_both l s hs2 (by omega)
      obtain ⟨a, g1, g2⟩ := key
      exact law_ev l h.big s hs2 a g1 g2
end Go.Proofs.YtfccifekaokibaaGreatDoor.Pure

