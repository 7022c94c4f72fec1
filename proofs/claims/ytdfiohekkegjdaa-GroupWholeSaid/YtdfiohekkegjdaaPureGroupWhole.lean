/- The law GroupWhole, in plain words. -/
import Derived.Test.YtdfiohekkegjdaaQIx8
import Derived.Test.YtdfiohekkegjdaaGpWhole
import Derived.Test.YtdfiohekkegjdaaGpAlive
namespace Go.Proofs.Ytdfiohekkegjdaa.Pure
open Go.RowKit Go.Proofs.Ytdfiohekkegjdaa.QI Go.Proofs.YtdfiohekkegjdaaW.PrintWords Go.Proofs.YtdfiohekkegjdaaW.PrintLast Go.Proofs.Ytdfiohekkegjdaa.Gp Oriel.Lx Go.Proofs.Ytdfiohekkegjdaa.Lx
theorem rd_nat (l : List Int) (n : Nat) (h : n < l.length) : rd l (n : Int) = l[n] := by
  unfold rd
  rw [Int.toNat_natCast, List.getD_eq_getElem?_getD, List.getElem?_eq_getElem h]
  rfl
theorem rd_put (l : List Int) (i j : Nat) (hj : j < l.length) (v : Int) : rd (l.set i v) (j : Int) = if j = i then v else rd l (j : Int) := by
  rw [rd_nat _ j (by rw [List.length_set]; exact hj), rd_nat l j hj, List.getElem_set]
  by_cases h : i = j
  · rw [if_pos h, if_pos h.symm]
  · rw [if_neg h, if_neg (fun e => h e.symm)]
theorem wh_end (l : List ByteArray) (h : Small l) (hA : allS l = true) (X : List Int) (hX : X.length = l.length + 1) (x : S27) (hx : x = toS (grp (lvF (levs l)) 0 l.length)) (hr : ∀ i : Nat, i < X.length → rd X (i : Int) = i) :
    ∀ d i : Nat, X.length - i = d → i ≤ X.length → Ev (fun k => oriellaw31_GroupWhole.l2 k l X X (X.length : Int) (i : Int) x.f0 x.f1 x.f2) true := by
  have h60 := h.1
  intro d
  induction d with
  | zero =>
    intro i hd hi
    have hlv := levels_ev l h hA l.length 0 l.length (by omega) (Nat.le_refl _)
    rw [← hx] at hlv
    refine Ev.step (f := fun k => (oriellaw31_levels.f k x.f0 x.f1 x.f2 l).bind fun t198 => (if t198 = true then ((oriellaw31_alive.f k).bind fun t199 => (some t199)) else (some false))) (fun k => ?_) ?_
    · rw [oriellaw31_GroupWhole.l2, if_neg (by omega), if_pos (by rw [hX]; unfold wrap64; omega)]
    · refine Ev.bind (f := fun k t198 => (if t198 = true then ((oriellaw31_alive.f k).bind fun t199 => (some t199)) else (some false))) hlv ?_
      simp only [if_true]
      exact Ev.bind (f := fun _ t => some t) alive31 (Ev.now _)
  | succ d ih =>
    intro i hd hi
    refine Ev.step (f := fun k => oriellaw31_GroupWhole.l2 k l X X (X.length : Int) ((i + 1 : Nat) : Int) x.f0 x.f1 x.f2) (fun k => ?_) (ih (i + 1) (by omega) (by omega))
    rw [oriellaw31_GroupWhole.l2, if_pos (by omega), if_pos (by omega), if_pos (by omega), if_pos (hr i (by omega)), wrap_nat i (by omega)]
theorem wh_met (l : List ByteArray) (h : Small l) (X : List Int) (x : S27) (hE : Ev (fun k => oriellaw31_GroupWhole.l2 k l X X (X.length : Int) ((0 : Nat) : Int) x.f0 x.f1 x.f2) true) (M : List Int) (hM : M.length = l.length) (hr : ∀ i : Nat, i < M.length → rd M (i : Int) = 1) :
    ∀ d i : Nat, M.length - i = d → i ≤ M.length → Ev (fun k => oriellaw31_GroupWhole.l1 k l X M (M.length : Int) (i : Int) x.f0 x.f1 x.f2) true := by
  have h60 := h.1
  intro d
  induction d with
  | zero =>
    intro i hd hi
    exact Ev.step (f := fun k => oriellaw31_GroupWhole.l2 k l X X (X.length : Int) ((0 : Nat) : Int) x.f0 x.f1 x.f2) (fun k => by rw [oriellaw31_GroupWhole.l1, if_neg (by omega)]; rfl) hE
  | succ d ih =>
    intro i hd hi
    refine Ev.step (f := fun k => oriellaw31_GroupWhole.l1 k l X M (M.length : Int) ((i + 1 : Nat) : Int) x.f0 x.f1 x.f2) (fun k => ?_) (ih (i + 1) (by omega) (by omega))
    rw [oriellaw31_GroupWhole.l1, if_pos (by omega), if_pos (by omega), if_pos (by omega), if_pos (hr i (by omega)), wrap_nat i (by omega)]
theorem wh_count (l : List ByteArray) (h : Small l) (X : List Int) (x : S27) (hE : Ev (fun k => oriellaw31_GroupWhole.l2 k l X X (X.length : Int) ((0 : Nat) : Int) x.f0 x.f1 x.f2) true) (S : List Nat) (hlt : ∀ y ∈ S, y < l.length) (hc : ∀ j, j < l.length → S.count j = 1) (hSl : S.length ≤ 1000) :
    ∀ d i : Nat, ∀ M : List Int, S.length - i = d → i ≤ S.length → M.length = l.length → (∀ j : Nat, j < M.length → rd M (j : Int) = ((S.take i).count j : Nat)) →
    Ev (fun k => oriellaw31_GroupWhole.l0 k l X M (S.map fun (n : Nat) => (n : Int)) ((S.map fun (n : Nat) => (n : Int)).length : Int) (i : Int) x.f0 x.f1 x.f2) true := by
  have h60 := h.1
  rw [List.length_map]
  intro d
  induction d with
  | zero =>
    intro i M hd hi hM hr
    refine Ev.step (f := fun k => oriellaw31_GroupWhole.l1 k l X M (M.length : Int) ((0 : Nat) : Int) x.f0 x.f1 x.f2) (fun k => by rw [oriellaw31_GroupWhole.l0, if_neg (by omega)]; rfl) ?_
    refine wh_met l h X x hE M hM (fun j hj => ?_) M.length 0 (by omega) (by omega)
    rw [hr j hj, List.take_of_length_le (by omega), hc j (by omega)]
    rfl
  | succ d ih =>
    intro i M hd hi hM hr
    have hil : i < S.length := by omega
    have hy := hlt _ (List.getElem_mem hil)
    have hrd : rd (S.map fun (n : Nat) => (n : Int)) (i : Int) = (S[i] : Int) := by
      rw [rd_nat _ i (by rw [List.length_map]; exact hil), List.getElem_map]
    have hle : ∀ j, (S.take i).count j ≤ 1000 := by
      intro j
      refine Nat.le_trans List.count_le_length ?_
      rw [List.length_take]
      omega
    have hv := hr S[i] (by omega)
    have hle2 := hle S[i]
    refine Ev.step (f := fun k => oriellaw31_GroupWhole.l0 k l X (M.set S[i] (((S.take i).count S[i] + 1 : Nat) : Int)) (S.map fun (n : Nat) => (n : Int)) (S.length : Int) ((i + 1 : Nat) : Int) x.f0 x.f1 x.f2) (fun k => ?_) ?_
    · rw [oriellaw31_GroupWhole.l0, if_pos (by omega), if_pos (by omega), if_pos (by rw [List.length_map]; omega), hrd, if_neg (by omega), if_neg (by omega), if_pos (by omega), if_pos (by omega), hv, wrap_nat i (by omega), wrap_nat _ (by omega), Int.toNat_natCast]
    · refine ih (i + 1) _ (by omega) (by omega) (by rw [List.length_set]; exact hM) (fun j hj => ?_)
      rw [List.length_set] at hj
      rw [rd_put M S[i] j hj, List.take_succ_eq_append_getElem hil, List.count_append, List.count_singleton]
      by_cases e : j = S[i]
      · subst e
        rw [if_pos rfl, if_pos (by simp)]
      · rw [if_neg e, if_neg (by simpa using fun g => e g.symm), Nat.add_zero, hr j hj]
theorem GroupWhole (l : List ByteArray) (_ : ∀ x ∈ l, x.size ≤ maxLen) : ∃ k, oriellaw31_GroupWhole.f k l = some true := by
  refine Ev.rounds (g := fun k => oriellaw31_GroupWhole.f k l) ?_
  have skip : Ev (fun k => (oriellaw31_alive.f k).bind fun t175 => some t175) true := Ev.bind (f := fun _ t => some t) alive31 (Ev.now _)
  obtain ⟨b, h1, h2⟩ := few_ev l
  unfold oriellaw31_GroupWhole.f
  refine Ev.bind h1 ?_
  cases b with
  | false =>
    simp only [Bool.false_eq_true, if_false]
    exact skip
  | true =>
    simp only [if_true]
    have hs : Small l := h2 rfl
    have h60 := hs.1
    refine Ev.bind (group_ev l hs) ?_
    cases ha : allS l with
    | false =>
      have e : grpA l = (0, 0, [], false) := by unfold grpA; rw [ha, if_neg Bool.false_ne_true]
      simp only [e, Bool.false_eq_true, if_false]
      exact skip
    | true =>
      have e : grpA l = ((toS (grp (lvF (levs l)) 0 l.length)).f0, (toS (grp (lvF (levs l)) 0 l.length)).f1, (toS (grp (lvF (levs l)) 0 l.length)).f2, true) := by unfold grpA; rw [ha, if_pos rfl]
      simp only [e, if_true]
      have hlf := grp_leafs (lvF (levs l)) l.length 0 l.length (by omega) (by omega)
      rw [Nat.sub_zero] at hlf
      have hll : (leafs (grp (lvF (levs l)) 0 l.length)).length = l.length + 1 := by rw [hlf, List.length_range']
      have hsl := leafs_len (grp (lvF (levs l)) 0 l.length)
      refine Ev.bind (leaves_ev (grp (lvF (levs l)) 0 l.length) (by omega)) ?_
      simp only [if_pos (show (0 : Int) ≤ (l.length : Int) by omega), if_pos (show ((l.length : Int) : Int).toNat ≤ 35184372088832 by rw [Int.toNat_natCast]; omega)]
      refine Ev.bind (signs_ev (grp (lvF (levs l)) 0 l.length) (by omega)) ?_
      have hXl : ((leafs (grp (lvF (levs l)) 0 l.length)).map fun (n : Nat) => (n : Int)).length = l.length + 1 := by rw [List.length_map, hll]
      have hE := wh_end l hs ha ((leafs (grp (lvF (levs l)) 0 l.length)).map fun (n : Nat) => (n : Int)) hXl (toS (grp (lvF (levs l)) 0 l.length)) rfl (fun i hi => by
        rw [rd_nat _ i hi, List.getElem_map]
        simp only [hlf, List.getElem_range']
        omega) _ 0 rfl (by omega)
      refine wh_count l hs _ (toS (grp (lvF (levs l)) 0 l.length)) hE (signsT (grp (lvF (levs l)) 0 l.length)) (grp_signs_lt _ _) (fun j hj => by rw [grp_count _ l.length 0 l.length j (by omega), if_pos (by omega)]) (by omega) _ 0 (List.replicate ((l.length : Int) : Int).toNat 0) rfl (by omega) (by simp) (fun j hj => ?_)
      rw [rd_nat _ j hj, List.getElem_replicate]
      rfl
end Go.Proofs.Ytdfiohekkegjdaa.Pure
