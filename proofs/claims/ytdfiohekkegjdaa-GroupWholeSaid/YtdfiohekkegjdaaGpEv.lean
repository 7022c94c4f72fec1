/- The printed functions of package group, and the document's, come to plain words. -/
import Derived.Test.YtdfiohekkegjdaaQIx5
import Derived.Test.YtdfiohekkegjdaaQIx1
import Derived.Test.YtdfiohekkegjdaaGpFacts
namespace Go.Proofs.Ytdfiohekkegjdaa.Gp
open Go.RowKit Go.Proofs.Ytdfiohekkegjdaa.QI Go.Proofs.YtdfiohekkegjdaaW.PrintWords Go.Proofs.YtdfiohekkegjdaaW.PrintLast Oriel.Lx Go.Proofs.Ytdfiohekkegjdaa.Lx
theorem rd_at (l : List ByteArray) (i : Nat) (h : i < l.length) : rdOf ByteArray.empty l (i : Int) = l[i] := by
  unfold rdOf
  rw [show ((i : Int)).toNat = i from rfl, List.getD_eq_getElem?_getD, List.getElem?_eq_getElem h]
  rfl
/-! ### few -/
theorem few_loop (l : List ByteArray) : ∀ (d i n : Nat), 61 - i = d → i ≤ 61 → i ≤ l.length → n ≤ 1000 * i → (n ≤ 500 → ∀ x ∈ l.take i, x.size ≤ 500) →
    ∃ b, Ev (fun k => oriellaw31_few.l0 k l (n : Int) (i : Int)) b ∧ (b = true → l.length ≤ 60 ∧ ∀ x ∈ l, x.size ≤ 500) := by
  intro d
  induction d with
  | zero =>
    intro i n hd hi hl hn hx
    refine ⟨false, Ev.step (f := fun _ => some false) (fun k => ?_) (Ev.now _), fun h => by cases h⟩
    rw [oriellaw31_few.l0]
    by_cases h : (i : Int) < (l.length : Int)
    · rw [if_pos h, if_neg (by omega), if_neg (by omega)]
    · rw [if_neg h, if_neg (by omega)]
  | succ d ih =>
    intro i n hd hi hl hn hx
    by_cases h : i < l.length
    · have hr := rd_at l i h
      have hm : mn ((l[i]).size : Int) 1000 = ((min (l[i]).size 1000 : Nat) : Int) := by
        unfold mn
        split <;> omega
      have hmin : min (l[i]).size 1000 ≤ 1000 := Nat.min_le_right _ _
      obtain ⟨b, h1, h2⟩ := ih (i + 1) (n + min (l[i]).size 1000) (by omega) (by omega) (by omega) (by omega) (fun hle x hxm => by
        rw [List.take_succ_eq_append_getElem h, List.mem_append, List.mem_singleton] at hxm
        rcases hxm with hxm | rfl
        · exact hx (by omega) x hxm
        · omega)
      refine ⟨b, Ev.step (f := fun k => oriellaw31_few.l0 k l ((n + min (l[i]).size 1000 : Nat) : Int) ((i + 1 : Nat) : Int)) (fun k => ?_) h1, h2⟩
      rw [oriellaw31_few.l0, if_pos (by omega), if_pos (by omega), if_pos (by omega), hr, hm, wrap_nat i (by omega)]
      rw [show wrap64 ((n : Int) + ((min (l[i]).size 1000 : Nat) : Int)) = ((n + min (l[i]).size 1000 : Nat) : Int) by unfold wrap64; omega]
    · have hil : i = l.length := by omega
      refine ⟨decide ((n : Int) ≤ 500), Ev.step (f := fun _ => some (decide ((n : Int) ≤ 500))) (fun k => ?_) (Ev.now _), fun hb => ?_⟩
      · rw [oriellaw31_few.l0, if_neg (by omega), if_pos (by omega)]
      · have hb := of_decide_eq_true hb
        refine ⟨by omega, fun x hxm => hx (by omega) x ?_⟩
        rw [hil, List.take_length]
        exact hxm
theorem few_ev (l : List ByteArray) : ∃ b, Ev (fun k => oriellaw31_few.f k l) b ∧ (b = true → l.length ≤ 60 ∧ ∀ x ∈ l, x.size ≤ 500) := by
  exact few_loop l 61 0 0 rfl (by omega) (by omega) (by omega) (fun _ x hx => by simp at hx)
/-! ### levels -/
def levs (l : List ByteArray) : List (Int × Bool) := l.map fun s => levT s.data.toList
theorem lvF_at (l : List ByteArray) (i : Nat) (h : i < l.length) : lvF (levs l) i = levT (l[i]).data.toList := by
  unfold lvF levs
  rw [List.getD_eq_getElem?_getD, List.getElem?_map, List.getElem?_eq_getElem h]
  rfl
def Small (l : List ByteArray) : Prop := l.length ≤ 60 ∧ ∀ x ∈ l, x.size ≤ 500
theorem Small.at {l : List ByteArray} (h : Small l) (i : Nat) (hi : i < l.length) : (l[i]).size ≤ 140737488351232 := by
  have := h.2 _ (List.getElem_mem hi)
  omega
theorem lvs_ev : ∀ (l : List ByteArray), (∀ x ∈ l, x.size ≤ 500) → Ev (fun k => lvsOf k l) (levs l)
  | [], h => Ev.now _
  | s :: r, h => Ev.bind (f := fun k x => (lvsOf k r).bind fun l => some (x :: l)) (level_ev s (by have := h s List.mem_cons_self; omega)) (Ev.bind (f := fun k l => some (levT s.data.toList :: l)) (lvs_ev r fun x hx => h x (List.mem_cons_of_mem _ hx)) (Ev.now _))
/-- Are all signs? -/
def allS (l : List ByteArray) : Bool := l.all fun s => kindT s.data.toList == 9
theorem lev_nonneg (s : T) : (0 : Int) ≤ (levT s).1 := by
  have h := lev_pos s
  by_cases h9 : kindT s = 9
  · rw [h9] at h
    have := of_decide_eq_true (h.trans (by rfl))
    omega
  · unfold levT
    rw [if_neg h9]
    exact Int.le_refl _
theorem any_zero : ∀ l : List ByteArray, ((levs l).any fun x => decide (x.1 = 0)) = !allS l
  | [] => rfl
  | s :: r => by
    have ih := any_zero r
    unfold levs allS at ih ⊢
    rw [List.map_cons, List.any_cons, ih, List.all_cons, Bool.not_and]
    congr 1
    rw [← lev_pos]
    have := lev_nonneg s.data.toList
    by_cases h : (levT s.data.toList).1 = 0
    · rw [decide_eq_true h, decide_eq_false (by omega)]
      rfl
    · rw [decide_eq_false h, decide_eq_true (by omega)]
      rfl
/-- The program's answer. -/
def grpA (l : List ByteArray) : Int × Int × List S27 × Bool := if allS l = true then ((toS (grp (lvF (levs l)) 0 l.length)).f0, (toS (grp (lvF (levs l)) 0 l.length)).f1, (toS (grp (lvF (levs l)) 0 l.length)).f2, true) else (0, 0, [], false)
theorem group_ev (l : List ByteArray) (h : Small l) : Ev (fun k => group_Group.f k l) (grpA l) := by
  unfold group_Group.f
  simp only [if_pos (show l.length ≤ 100000 from Nat.le_trans h.1 (by omega))]
  refine Ev.bind (f := fun k L => if (L.any fun x => decide (x.1 = 0)) = true then some (0, 0, [], false) else some ((toS (grp (lvF L) 0 l.length)).f0, (toS (grp (lvF L) 0 l.length)).f1, (toS (grp (lvF L) 0 l.length)).f2, true)) (lvs_ev l h.2) ?_
  refine Ev.congr (f := fun _ => some (grpA l)) (fun k => ?_) (Ev.now _)
  rw [any_zero]
  unfold grpA
  cases allS l <;> rfl
end Go.Proofs.Ytdfiohekkegjdaa.Gp
