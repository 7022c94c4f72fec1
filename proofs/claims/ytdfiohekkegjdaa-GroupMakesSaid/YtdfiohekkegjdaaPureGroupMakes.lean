/- The law GroupMakes, in plain words. -/
import Derived.Test.YtdfiohekkegjdaaQPx10
import Derived.Test.YtdfiohekkegjdaaGpEv
import Derived.Test.YtdfiohekkegjdaaGpAlive
namespace Go.Proofs.Ytdfiohekkegjdaa.Pure
open Go.RowKit Go.Proofs.Ytdfiohekkegjdaa.QP Go.Proofs.YtdfiohekkegjdaaW.PrintWords Go.Proofs.YtdfiohekkegjdaaW.PrintLast Go.Proofs.Ytdfiohekkegjdaa.Gp
theorem GroupMakes (l : List ByteArray) (_ : ∀ x ∈ l, x.size ≤ maxLen) : ∃ k, oriellaw31_GroupMakes.f k l = some true := by
  obtain ⟨b, h1, h2⟩ := few_ev l
  obtain ⟨K1, h1⟩ := h1
  obtain ⟨K2, h3⟩ := alive31
  cases b with
  | false =>
    refine ⟨K1 + K2, ?_⟩
    simp only [oriellaw31_GroupMakes.f, h1 (K1 + K2) (by omega), h3 (K1 + K2) (by omega), Option.bind_some, Bool.false_eq_true, if_false]
  | true =>
    have hs : Small l := h2 rfl
    obtain ⟨K3, h4⟩ := group_ev l hs
    obtain ⟨K4, h5⟩ := right_ev l hs
    cases ha : allS l with
    | false =>
      obtain ⟨K5, h6⟩ := of_zero
      obtain ⟨K6, h7⟩ := same_zero
      have e : grpA l = (0, 0, [], false) := by unfold grpA; rw [ha, if_neg Bool.false_ne_true]
      rw [e] at h4
      rw [ha] at h5
      refine ⟨K1 + K2 + K3 + K4 + K5 + K6, ?_⟩
      simp only [oriellaw31_GroupMakes.f, h1 (K1 + K2 + K3 + K4 + K5 + K6) (by omega), h3 (K1 + K2 + K3 + K4 + K5 + K6) (by omega), h4 (K1 + K2 + K3 + K4 + K5 + K6) (by omega), h5 (K1 + K2 + K3 + K4 + K5 + K6) (by omega), h6 (K1 + K2 + K3 + K4 + K5 + K6) (by omega), h7 (K1 + K2 + K3 + K4 + K5 + K6) (by omega), Option.bind_some, Bool.false_eq_true, if_false, if_true]
    | true =>
      obtain ⟨K5, h6⟩ := of_ev (grp (lvF (levs l)) 0 l.length)
      obtain ⟨K6, h7⟩ := same_ev (grp (lvF (levs l)) 0 l.length)
      obtain ⟨K7, h8⟩ := rg_ev l hs l.length 0 l.length (by omega) (Nat.le_refl _)
      have e : grpA l = ((toS (grp (lvF (levs l)) 0 l.length)).f0, (toS (grp (lvF (levs l)) 0 l.length)).f1, (toS (grp (lvF (levs l)) 0 l.length)).f2, true) := by unfold grpA; rw [ha, if_pos rfl]
      rw [e] at h4
      rw [ha] at h5
      refine ⟨K1 + K2 + K3 + K4 + K5 + K6 + K7, ?_⟩
      have h8' : orielref31_Group.f (K1 + K2 + K3 + K4 + K5 + K6 + K7) l 0 (l.length : Int) = some (trip (toR (grp (lvF (levs l)) 0 l.length))) := h8 _ (by omega)
      simp only [oriellaw31_GroupMakes.f, h1 (K1 + K2 + K3 + K4 + K5 + K6 + K7) (by omega), h3 (K1 + K2 + K3 + K4 + K5 + K6 + K7) (by omega), h4 (K1 + K2 + K3 + K4 + K5 + K6 + K7) (by omega), h5 (K1 + K2 + K3 + K4 + K5 + K6 + K7) (by omega), h6 (K1 + K2 + K3 + K4 + K5 + K6 + K7) (by omega), h8', trip, h7 (K1 + K2 + K3 + K4 + K5 + K6 + K7) (by omega), Option.bind_some, if_true]
end Go.Proofs.Ytdfiohekkegjdaa.Pure
