/- NameKinds: what a text is as a name, in any space, is as the document says. No condition. -/
import Derived.Test.YtcccambfcedakaaDoorNmRef
import Derived.Test.YtcccambfcedakaaDoorQDx9
namespace Go.Proofs.YtcccambfcedakaaDoor.Pure
open Go.RowKit Go.Proofs.YtcccambfcedakaaDoor.QD Go.Proofs.YtcccambfcedakaaDoorW.PrintWords Go.Proofs.YtcccambfcedakaaDoorW.PrintLast Oriel.Lx Go.Proofs.YtcccambfcedakaaDoor.Lx
theorem texts_ev : Ev (fun k => (name_Keywords.f).bind fun t => (orielref04_Keywords.f).bind fun u => orielref04_Texts.f k t u) true := by
  unfold name_Keywords.f orielref04_Keywords.f
  simp only [Option.bind_some]
  refine Ev.of (orielref04_Texts.mono _ _) (k := 40) ?_
  decide +kernel
def spaceT (sp : Int) : ByteArray := if sp < 0 then ⟨#[]⟩ else (spL[sp.toNat]?).getD ⟨#[]⟩
theorem kinds_j2 (s t : ByteArray) (hs : s.size ≤ 140737488351232) (ht : t.size ≤ 140737488351232) (sp : Int) (x : ByteArray) (hx : (spaceT sp).toList = x.toList) :
    Ev (fun k => oriellaw04_NameKinds.j2 k s t sp (levT s.data.toList).1 (levT s.data.toList).2 (levT s.data.toList).1 (levT s.data.toList).2 x) true := by
  obtain ⟨K1, e1⟩ := kind_ev s hs
  obtain ⟨K2, e2⟩ := rkind_ev s hs
  obtain ⟨K3, e3⟩ := keyword_ev s
  obtain ⟨K4, e4⟩ := rkey_ev s
  obtain ⟨K5, e5⟩ := rmark_ev s
  obtain ⟨K6, e6⟩ := may_ev sp s hs
  obtain ⟨K7, e7⟩ := rmay_ev sp s hs
  obtain ⟨K8, e8⟩ := alike_ev s t hs ht
  obtain ⟨K9, e9⟩ := ralike_ev s t hs ht
  obtain ⟨K10, e10⟩ := texts_ev
  obtain ⟨K11, e11⟩ := alive4_b
  refine ⟨K1 + K2 + K3 + K4 + K5 + K6 + K7 + K8 + K9 + K10 + K11 + 1, fun k hk => ?_⟩
  obtain ⟨k, rfl⟩ : ∃ m, k = m + 1 := ⟨k - 1, by omega⟩
  have f1 := e1 k (by omega)
  have f2 := e2 k (by omega)
  have f3 := e3 k (by omega)
  have f4 := e4 k (by omega)
  have f5 := e5 k (by omega)
  have f6 := e6 k (by omega)
  have f7 := e7 k (by omega)
  have f8 := e8 k (by omega)
  have f9 := e9 k (by omega)
  have f10 := e10 k (by omega)
  have f11 := e11 k (by omega)
  clear e1 e2 e3 e4 e5 e6 e7 e8 e9 e10 e11
  dsimp only at f1 f2 f3 f4 f5 f6 f7 f8 f9 f10 f11 ⊢
  have fs : name_Space.f sp = some (spaceT sp) := rfl
  obtain ⟨u1, hu1, g4⟩ := Option.bind_eq_some_iff.1 f4
  obtain ⟨u2, hu2, g5⟩ := Option.bind_eq_some_iff.1 f5
  obtain ⟨u3, hu3, g10⟩ := Option.bind_eq_some_iff.1 f10
  obtain ⟨u4, hu4, g10⟩ := Option.bind_eq_some_iff.1 g10
  have h41 : u4 = u1 := Option.some.inj (hu4.symm.trans hu1)
  subst h41
  rw [oriellaw04_NameKinds.j2]
  simp only [f1, f2, f3, hu1, g4, mark_f, hu2, g5, f6, f7, f8, f9, fs, hu3, g10, f11, Option.bind_some, beq_self_eq_true, if_true, hx]
theorem NameKinds : oriellaw04_NameKinds.Pure := by
  intro s t sp hs ht hw
  refine Ev.rounds ?_
  have J0 : ∀ v : Bool, Ev (fun k => oriellaw04_NameKinds.j0 k s t sp v) true := by
    intro v
    cases v with
    | true => exact Ev.step (f := fun k => (oriellaw04_alive.f k).bind fun t => some t) (fun k => by rw [oriellaw04_NameKinds.j0, if_pos rfl]) alive4_b
    | false =>
      have J1 : Ev (fun k => oriellaw04_NameKinds.j1 k s t sp (levT s.data.toList).1 (levT s.data.toList).2 (levT s.data.toList).1 (levT s.data.toList).2 ⟨#[]⟩ (decide (1 ≤ sp ∧ sp ≤ 6))) true := by
        by_cases hr : 1 ≤ sp ∧ sp ≤ 6
        · rw [decide_eq_true hr]
          refine Ev.step (f := fun k => oriellaw04_NameKinds.j2 k s t sp (levT s.data.toList).1 (levT s.data.toList).2 (levT s.data.toList).1 (levT s.data.toList).2 (spaceT sp)) (fun k => ?_) (kinds_j2 s t hs ht sp _ rfl)
          rw [oriellaw04_NameKinds.j1, if_pos rfl]
          unfold orielref04_Spaces.f
          simp only [Option.bind_some]
          have : sp = 1 ∨ sp = 2 ∨ sp = 3 ∨ sp = 4 ∨ sp = 5 ∨ sp = 6 := by omega
          rcases this with rfl | rfl | rfl | rfl | rfl | rfl <;> rfl
        · rw [decide_eq_false hr]
          refine Ev.step (f := fun k => oriellaw04_NameKinds.j2 k s t sp (levT s.data.toList).1 (levT s.data.toList).2 (levT s.data.toList).1 (levT s.data.toList).2 ⟨#[]⟩) (fun k => by rw [oriellaw04_NameKinds.j1, if_neg (by simp)]) (kinds_j2 s t hs ht sp _ ?_)
          unfold spaceT
          by_cases h0 : sp < 0
          · rw [if_pos h0]
          · rw [if_neg h0]
            by_cases h1 : sp = 0
            · subst h1; rfl
            · rw [List.getElem?_eq_none (by simp [spL]; omega)]
              rfl
      obtain ⟨K1, e1⟩ := level_ev s hs
      obtain ⟨K2, e2⟩ := rlevel_ev s hs
      obtain ⟨K3, e3⟩ := J1
      refine ⟨K1 + K2 + K3 + 1, fun k hk => ?_⟩
      obtain ⟨k, rfl⟩ : ∃ m, k = m + 1 := ⟨k - 1, by omega⟩
      have f1 := e1 k (by omega)
      have f2 := e2 k (by omega)
      have f3 := e3 k (by omega)
      dsimp only at f1 f2 f3 ⊢
      rw [oriellaw04_NameKinds.j0, if_neg (by simp), f1]
      simp only [Option.bind_some]
      rw [f2]
      simp only [Option.bind_some]
      by_cases h1 : sp ≥ 1
      · rw [if_pos h1]
        have : decide (1 ≤ sp ∧ sp ≤ 6) = decide (sp ≤ 6) := by
          by_cases h6 : sp ≤ 6 <;> simp [h6]; omega
        rw [this] at f3
        exact f3
      · rw [if_neg h1]
        have : decide (1 ≤ sp ∧ sp ≤ 6) = false := decide_eq_false (by omega)
        rw [this] at f3
        exact f3
  unfold oriellaw04_NameKinds.f
  by_cases h1 : (s.size : Int) > 1000
  · simp only [if_pos h1]; exact J0 _
  · simp only [if_neg h1]; exact J0 _
end Go.Proofs.YtcccambfcedakaaDoor.Pure
