/- NameAlike: to be alike is what it should be. No condition. -/
import Derived.Test.YtcccambfcedakaaDoorNmFacts
import Derived.Test.YtcccambfcedakaaDoorQDx10
namespace Go.Proofs.YtcccambfcedakaaDoor.Pure
open Go.RowKit Go.Proofs.YtcccambfcedakaaDoor.QD Go.Proofs.YtcccambfcedakaaDoorW.PrintWords Go.Proofs.YtcccambfcedakaaDoorW.PrintLast Oriel.Lx Go.Proofs.YtcccambfcedakaaDoor.Lx
theorem alike_loop (a b : ByteArray) (ha : a.size ≤ 140737488351232) (hb : b.size ≤ 140737488351232) : ∀ d n : Nat, n + d = 7 → Ev (fun k => oriellaw04_NameAlike.l0 k a b (n : Int)) true := by
  intro d
  induction d with
  | zero =>
    intro n hn
    refine Ev.step (f := fun k => (oriellaw04_alive.f k).bind fun t => some t) (fun k => by rw [oriellaw04_NameAlike.l0, if_neg (by omega)]) alive4_b
  | succ d ih =>
    intro n hn
    have hw : wrap64 ((n : Int) + 1) = ((n + 1 : Nat) : Int) := wrap_nat n (by omega)
    have hr := ih (n + 1) (by omega)
    obtain ⟨K1, h1⟩ := alike_ev a b ha hb
    obtain ⟨K2, h2⟩ := may_ev (n : Int) a ha
    obtain ⟨K3, h3⟩ := may_ev (n : Int) b hb
    obtain ⟨K4, h4⟩ := hr
    refine ⟨K1 + K2 + K3 + K4 + 1, fun k hk => ?_⟩
    obtain ⟨k, rfl⟩ : ∃ m, k = m + 1 := ⟨k - 1, by omega⟩
    dsimp only
    rw [oriellaw04_NameAlike.l0, if_pos (by omega), show name_Alike.f k a b = some (alikeT a.data.toList b.data.toList) from h1 k (by omega)]
    simp only [Option.bind_some]
    cases hal : alikeT a.data.toList b.data.toList with
    | true =>
      rw [if_pos rfl, show name_May.f k (n : Int) a = some (mayT (n : Int) (kindT a.data.toList)) from h2 k (by omega)]
      simp only [Option.bind_some]
      rw [show name_May.f k (n : Int) b = some (mayT (n : Int) (kindT b.data.toList)) from h3 k (by omega)]
      simp only [Option.bind_some]
      rw [alike_kind hal, if_neg (by simp), hw]
      exact h4 k (by omega)
    | false =>
      rw [if_neg (by simp), hw]
      exact h4 k (by omega)
theorem NameAlike : oriellaw04_NameAlike.Pure := by
  intro a b c ha hb hc
  refine Ev.rounds ?_
  have J2 : Ev (fun k => oriellaw04_NameAlike.j2 k a b false) true := by
    refine Ev.step (f := fun k => oriellaw04_NameAlike.l0 k a b 1) (fun k => by rw [oriellaw04_NameAlike.j2, if_neg (by simp)]) ?_
    exact alike_loop a b ha hb 6 1 (by omega)
  have J1 : Ev (fun k => oriellaw04_NameAlike.j1 k a b c (mayT 1 (kindT a.data.toList) || mayT 2 (kindT a.data.toList))) true := by
    obtain ⟨K0, h0⟩ := alike_ev a a ha ha
    obtain ⟨K1, h1⟩ := alike_ev a b ha hb
    obtain ⟨K2, h2⟩ := alike_ev b a hb ha
    obtain ⟨K3, h3⟩ := alike_ev b c hb hc
    obtain ⟨K4, h4⟩ := alike_ev a c ha hc
    obtain ⟨K5, h5⟩ := J2
    refine ⟨K0 + K1 + K2 + K3 + K4 + K5 + 1, fun k hk => ?_⟩
    obtain ⟨k, rfl⟩ : ∃ m, k = m + 1 := ⟨k - 1, by omega⟩
    have e5 := h5 k (by omega)
    have h0' := h0 k (by omega)
    have h1' := h1 k (by omega)
    have h2' := h2 k (by omega)
    have h3' := h3 k (by omega)
    have h4' := h4 k (by omega)
    dsimp only at h0' h1' h2' h3' h4' e5 ⊢
    rw [oriellaw04_NameAlike.j1, h0', alike_refl]
    simp only [Option.bind_some, bne_self_eq_false, Bool.false_eq_true, if_false, h1', h2', h3', h4', alike_symm b.data.toList a.data.toList]
    cases e1 : alikeT a.data.toList b.data.toList with
    | false => simpa using e5
    | true =>
      cases e2 : alikeT b.data.toList c.data.toList with
      | false => simpa using e5
      | true =>
        rw [alike_trans e1 e2]
        simpa using e5
  have J0 : ∀ v : Bool, Ev (fun k => oriellaw04_NameAlike.j0 k a b c v) true := by
    intro v
    cases v with
    | true => exact Ev.step (f := fun k => (oriellaw04_alive.f k).bind fun t => some t) (fun k => by rw [oriellaw04_NameAlike.j0, if_pos rfl]) alive4_b
    | false =>
      obtain ⟨K1, h1⟩ := may_ev 1 a ha
      obtain ⟨K2, h2⟩ := may_ev 2 a ha
      obtain ⟨K3, h3⟩ := J1
      refine ⟨K1 + K2 + K3 + 1, fun k hk => ?_⟩
      obtain ⟨k, rfl⟩ : ∃ m, k = m + 1 := ⟨k - 1, by omega⟩
      have e3 := h3 k (by omega)
      have h1' := h1 k (by omega)
      have h2' := h2 k (by omega)
      dsimp only at h1' h2' e3 ⊢
      rw [oriellaw04_NameAlike.j0, if_neg (by simp), h1']
      simp only [Option.bind_some]
      cases e1 : mayT 1 (kindT a.data.toList) with
      | true => rw [e1, Bool.true_or] at e3; simpa using e3
      | false => rw [e1, Bool.false_or] at e3; simpa [h2'] using e3
  unfold oriellaw04_NameAlike.f
  by_cases h1 : (a.size : Int) > 1000
  · simp only [if_pos h1]; exact J0 _
  · simp only [if_neg h1]
    by_cases h2 : (b.size : Int) > 1000
    · simp only [if_pos h2]; exact J0 _
    · simp only [if_neg h2]; exact J0 _
end Go.Proofs.YtcccambfcedakaaDoor.Pure
