/- The law GroupAlike, in plain words. -/
import Derived.Test.YtdfiohekkegjdaaQHx9
import Derived.Test.YtdfiohekkegjdaaGpEv
import Derived.Test.YtdfiohekkegjdaaGpAlive
namespace Go.Proofs.Ytdfiohekkegjdaa.Pure
open Go.RowKit Go.Proofs.Ytdfiohekkegjdaa.QH Go.Proofs.YtdfiohekkegjdaaW.PrintWords Go.Proofs.YtdfiohekkegjdaaW.PrintLast Go.Proofs.Ytdfiohekkegjdaa.Gp Oriel.Lx Go.Proofs.Ytdfiohekkegjdaa.Lx
/-- Rows whose texts are alike have the same levels, and are all signs, or not, alike. -/
theorem alike_levs : ∀ (l m : List ByteArray), l.length = m.length → (∀ (i : Nat) (h1 : i < l.length) (h2 : i < m.length), alikeT (l[i]).data.toList (m[i]).data.toList = true) → levs l = levs m ∧ allS l = allS m
  | [], [], _, _ => ⟨rfl, rfl⟩
  | [], b :: m, hl, _ => by simp at hl
  | a :: l, [], hl, _ => by simp at hl
  | a :: l, b :: m, hl, h => by
    obtain ⟨h1, h2⟩ := alike_levs l m (by simpa using hl) (fun i g1 g2 => h (i + 1) (by simpa using g1) (by simpa using g2))
    have h0 : alikeT a.data.toList b.data.toList = true := h 0 (by simp) (by simp)
    have hk := alike_kind h0
    have hv : levT a.data.toList = levT b.data.toList := by
      by_cases h9 : kindT a.data.toList = 9
      · unfold alikeT at h0
        rw [if_pos hk, if_pos h9] at h0
        by_cases e1 : (levT a.data.toList).1 = (levT b.data.toList).1
        · rw [if_pos e1, beq_iff_eq] at h0
          exact Prod.ext e1 h0
        · rw [if_neg e1] at h0
          cases h0
      · have h9' : kindT b.data.toList ≠ 9 := fun e => h9 (hk.trans e)
        unfold levT
        rw [if_neg h9, if_neg h9']
    constructor
    · unfold levs at h1 ⊢
      rw [List.map_cons, List.map_cons, h1, hv]
    · unfold allS at h2 ⊢
      rw [List.all_cons, List.all_cons, h2, hk]
theorem ga_end (l m : List ByteArray) (hl : Small l) (hm : Small m) (e1 : levs l = levs m) (e2 : allS l = allS m) (e3 : l.length = m.length) : Ev (fun k => oriellaw31_GroupAlike.l0 k l m (l.length : Int) (l.length : Int)) true := by
  obtain ⟨K1, h1⟩ := group_ev l hl
  obtain ⟨K2, h2⟩ := group_ev m hm
  obtain ⟨K3, h3⟩ := alive31
  have e : grpA m = grpA l := by unfold grpA; rw [← e1, ← e2, ← e3]
  rw [e] at h2
  cases ha : allS l with
  | false =>
    obtain ⟨K4, h4⟩ := of_zero
    obtain ⟨K5, h5⟩ := same_zero
    have e : grpA l = (0, 0, [], false) := by unfold grpA; rw [ha, if_neg Bool.false_ne_true]
    rw [e] at h1 h2
    refine ⟨K1 + K2 + K3 + K4 + K5 + 1, fun k hk => ?_⟩
    obtain ⟨k, rfl⟩ : ∃ q, k = q + 1 := ⟨k - 1, by omega⟩
    simp only [oriellaw31_GroupAlike.l0, h1 k (by omega), h2 k (by omega), h3 k (by omega), h4 k (by omega), h5 k (by omega), Option.bind_some, BEq.rfl, if_true, if_neg (Int.lt_irrefl _)]
  | true =>
    obtain ⟨K4, h4⟩ := of_ev (grp (lvF (levs l)) 0 l.length)
    obtain ⟨K5, h5⟩ := same_ev (grp (lvF (levs l)) 0 l.length)
    have e : grpA l = ((toS (grp (lvF (levs l)) 0 l.length)).f0, (toS (grp (lvF (levs l)) 0 l.length)).f1, (toS (grp (lvF (levs l)) 0 l.length)).f2, true) := by unfold grpA; rw [ha, if_pos rfl]
    rw [e] at h1 h2
    refine ⟨K1 + K2 + K3 + K4 + K5 + 1, fun k hk => ?_⟩
    obtain ⟨k, rfl⟩ : ∃ q, k = q + 1 := ⟨k - 1, by omega⟩
    simp only [oriellaw31_GroupAlike.l0, h1 k (by omega), h2 k (by omega), h3 k (by omega), h4 k (by omega), trip, h5 k (by omega), Option.bind_some, BEq.rfl, if_true, if_neg (Int.lt_irrefl _)]
theorem ga_loop (l m : List ByteArray) (hl : Small l) (hm : Small m) (e3 : l.length = m.length) : ∀ d n : Nat, l.length - n = d → n ≤ l.length → (∀ (i : Nat) (h1 : i < l.length) (h2 : i < m.length), i < n → alikeT (l[i]).data.toList (m[i]).data.toList = true) →
    Ev (fun k => oriellaw31_GroupAlike.l0 k l m (l.length : Int) (n : Int)) true := by
  have h60 := hl.1
  intro d
  induction d with
  | zero =>
    intro n hd hn hb
    obtain ⟨e1, e2⟩ := alike_levs l m e3 (fun i h1 h2 => hb i h1 h2 (by omega))
    obtain rfl : n = l.length := by omega
    exact ga_end l m hl hm e1 e2 e3
  | succ d ih =>
    intro n hd hn hb
    have h1 : n < l.length := by omega
    have h2 : n < m.length := by omega
    refine Ev.step (f := fun k => (name_Alike.f k l[n] m[n]).bind fun t287 => if t287 = true then oriellaw31_GroupAlike.l0 k l m (l.length : Int) ((n + 1 : Nat) : Int) else (oriellaw31_alive.f k).bind fun t288 => some t288) (fun k => ?_) ?_
    · rw [oriellaw31_GroupAlike.l0, if_pos (by omega), if_pos (by omega), if_pos (by omega), if_pos (by omega), rd_at l n h1, rd_at m n h2, wrap_nat n (by omega)]
    · refine Ev.bind (f := fun k t287 => if t287 = true then oriellaw31_GroupAlike.l0 k l m (l.length : Int) ((n + 1 : Nat) : Int) else (oriellaw31_alive.f k).bind fun t288 => some t288) (alike_ev _ _ (hl.at n h1) (hm.at n h2)) ?_
      cases ha : alikeT (l[n]).data.toList (m[n]).data.toList with
      | true =>
        simp only [if_true]
        refine ih (n + 1) (by omega) (by omega) (fun i g1 g2 gi => ?_)
        rcases Nat.lt_or_ge i n with hi | hi
        · exact hb i g1 g2 hi
        · obtain rfl : i = n := by omega
          exact ha
      | false =>
        simp only [Bool.false_eq_true, if_false]
        exact Ev.bind (f := fun _ t => some t) alive31 (Ev.now _)
theorem GroupAlike (l m : List ByteArray) (_ : ∀ x ∈ l, x.size ≤ maxLen) (_ : ∀ x ∈ m, x.size ≤ maxLen) : ∃ k, oriellaw31_GroupAlike.f k l m = some true := by
  have skip : Ev (fun k => oriellaw31_GroupAlike.j0 k l m true) true := by
    refine Ev.step (f := fun k => (oriellaw31_alive.f k).bind fun t284 => some t284) (fun k => by rw [oriellaw31_GroupAlike.j0, if_pos rfl]) ?_
    exact Ev.bind (f := fun _ t => some t) alive31 (Ev.now _)
  refine Ev.rounds (g := fun k => oriellaw31_GroupAlike.f k l m) ?_
  unfold oriellaw31_GroupAlike.f
  obtain ⟨b, h1, h2⟩ := few_ev l
  obtain ⟨c, h3, h4⟩ := few_ev m
  refine Ev.bind (f := fun k t => if t = true then (oriellaw31_few.f k m).bind fun t283 => (if t283 = true then (oriellaw31_GroupAlike.j0 k l m ((l.length : Int) != (m.length : Int))) else (oriellaw31_GroupAlike.j0 k l m true)) else oriellaw31_GroupAlike.j0 k l m true) h1 ?_
  cases b with
  | false =>
    simp only [Bool.false_eq_true, if_false]
    exact skip
  | true =>
    simp only [if_true]
    refine Ev.bind (f := fun k t283 => if t283 = true then (oriellaw31_GroupAlike.j0 k l m ((l.length : Int) != (m.length : Int))) else (oriellaw31_GroupAlike.j0 k l m true)) h3 ?_
    cases c with
    | false =>
      simp only [Bool.false_eq_true, if_false]
      exact skip
    | true =>
      simp only [if_true]
      by_cases e : l.length = m.length
      · have hne : ((l.length : Int) != (m.length : Int)) = false := by rw [e]; simp
        rw [hne]
        refine Ev.step (f := fun k => oriellaw31_GroupAlike.l0 k l m (l.length : Int) ((0 : Nat) : Int)) (fun k => by rw [oriellaw31_GroupAlike.j0, if_neg Bool.false_ne_true]; rfl) ?_
        exact ga_loop l m (h2 rfl) (h4 rfl) e l.length 0 (by omega) (by omega) (fun i _ _ hi => by omega)
      · have hne : ((l.length : Int) != (m.length : Int)) = true := by
          rw [bne_iff_ne]
          omega
        rw [hne]
        exact skip
end Go.Proofs.Ytdfiohekkegjdaa.Pure
