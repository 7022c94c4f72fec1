/- Links and classes: what the law's callees come to; the chapter's example. -/
import Derived.Test.YthgjieigpfcekaaMtEv
import Derived.Test.YthgjieigpfcekaaMtLinks
import Derived.Test.YthgjieigpfcekaaMtClass
import Derived.Test.YthgjieigpfcekaaQMx6
import Derived.Test.YthgjieigpfcekaaQMx4
namespace Go.Proofs.Ythgjieigpfcekaa.Gr
open Go.RowKit Go.Proofs.Ythgjieigpfcekaa.QM Go.Proofs.YthgjieigpfcekaaW.PrintWords Go.Proofs.YthgjieigpfcekaaW.PrintLast
theorem ev_all {α : Type} {g : Nat → Option α} {r : α} (h : ∀ k, g k = some r) : Ev g r := ⟨0, fun k _ => h k⟩
theorem pairs_loop (a : List PP) (ha : a.length ≤ 1000000000) : ∀ d n : Nat, a.length - n = d → n ≤ a.length → Ev (fun k => orielref12_Pairs.l0 k a a (n : Int)) true := by
  intro d
  induction d with
  | zero =>
    intro n hd hn
    exact Ev.step (f := fun _ => some true) (fun k => by rw [orielref12_Pairs.l0, if_neg (by omega)]) (Ev.now _)
  | succ d ih =>
    intro n hd hn
    refine Ev.step (f := fun k => orielref12_Pairs.l0 k a a ((n + 1 : Nat) : Int)) (fun k => ?_) (ih (n + 1) (by omega) (by omega))
    rw [orielref12_Pairs.l0, if_pos (by omega), if_pos (by omega), if_pos (by omega), beq_self_eq_true, beq_self_eq_true, if_neg (by simp), wrap_nat n (by omega)]
theorem pairs_ev (a : List PP) (ha : a.length ≤ 1000000000) : Ev (fun k => orielref12_Pairs.f k a a) true := by
  unfold orielref12_Pairs.f
  simp only [if_true]
  exact pairs_loop a ha a.length 0 (by omega) (by omega)
theorem alive12 : Ev (fun k => oriellaw12_alive.f k) true := by
  unfold oriellaw12_alive.f
  have h1 : ∀ k, match_Links.f k [(⟨3, 1⟩ : PP), ⟨1, 3⟩, ⟨2, 2⟩] = some [⟨1, 3⟩] := by
    intro k
    unfold match_Links.f
    rw [if_pos (by simp), ← refLk_eq]
    rfl
  simp only [h1, Option.bind_some]
  refine Ev.bind (pairs_ev [⟨1, 3⟩] (by simp)) ?_
  have h2 : match_Class.f 4 [(⟨1, 3⟩ : PP)] = some [0, 1, 2, 1] := by decide
  simp only [h2, Option.bind_some, if_true]
  refine Ev.bind (ints_ev [0, 1, 2, 1] [0, 1, 2, 1] (by simp)) ?_
  simp only [decide_true, if_true]
  refine Ev.bind (a := true) (Ev.of (fun k => match_Linked.mono _ _ _ k) (show match_Linked.f 10 [(⟨1, 3⟩ : PP)] 3 1 = some true by decide)) ?_
  simp only [if_true]
  refine Ev.bind (a := false) (Ev.of (fun k => match_Linked.mono _ _ _ k) (show match_Linked.f 10 [(⟨1, 3⟩ : PP)] 2 1 = some false by decide)) ?_
  exact Ev.now _
theorem dd_len : ∀ l : List PP, (dd l).length ≤ l.length
  | [] => Nat.le_refl _
  | [_] => Nat.le_refl _
  | y :: z :: r => by
    rw [dd]
    have h1 := dd_len (z :: r)
    have h2 : (y :: z :: r).length = (z :: r).length + 1 := rfl
    split
    · omega
    · have h3 : (y :: dd (z :: r)).length = (dd (z :: r)).length + 1 := rfl
      omega
theorem lkL_len (L : List PP) : (lkL L).length ≤ L.length := by
  unfold lkL lkRaw
  refine Nat.le_trans (dd_len _) ?_
  rw [List.length_mergeSort, List.length_map]
  exact List.length_filter_le _ _
theorem linked12_ev (L : List PP) (a b : Int) (hL : L.length ≤ 1000000) (hokL : okL L = true) (ha : okI a = true) : Ev (fun k => match_Linked.f k L a b) (linkB L a b) := by
  refine Ev.of (fun k => match_Linked.mono _ _ _ k) (k := 2 * L.length + 2) ?_
  unfold match_Linked.f
  rw [if_pos ⟨hokL, ha, hL⟩]
  exact lkd_tells L a b hL
theorem cls_both (n : Int) (L : List PP) (hn : n ≤ 1000000) (k : Nat) : ∃ T : List Int, T.length ≤ 1000000 ∧ match_Class.f n L = some T ∧ orielref12_Class.f k n L = some T := by
  unfold match_Class.f orielref12_Class.f
  rw [if_neg (by omega), if_pos hn]
  rcases Int.lt_or_le n 0 with h | h
  · refine ⟨[], by simp, ?_, ?_⟩
    · have hl : ∀ (R : List PP), clsLoop n [] R = [] := by
        intro R
        induction R with
        | nil => rfl
        | cons p r ih =>
          have : clsStep n [] p = [] := cls_stepF n [] p (.inl (by simp [inB]; omega))
          rw [clsLoop, this, ih]
      rw [show n.toNat = 0 by omega]
      show some (clsFin 0 0 (clsLoop n [] L)) = _
      rw [hl]
      rfl
    · rw [show (n + 1).toNat = 0 by omega, show n.toNat = 0 by omega]
      rfl
  · obtain ⟨m, rfl⟩ : ∃ m : Nat, n = m := ⟨n.toNat, by omega⟩
    refine ⟨_, ?_, rfl, ?_⟩
    · rw [Int.toNat_natCast, (cls_least m L).1]
      omega
    · rw [Int.toNat_natCast, show ((m : Int) + 1).toNat = m + 1 by omega, cls_same]
end Go.Proofs.Ythgjieigpfcekaa.Gr
