/- Leaves, signs, levels of a term that the splitting makes: plain laws. -/
import Derived.Test.YtdfiohekkegjdaaQIx6
import Derived.Test.YtdfiohekkegjdaaQIx7
import Derived.Test.YtdfiohekkegjdaaQIx7
import Derived.Test.YtdfiohekkegjdaaGpEv
namespace Go.Proofs.Ytdfiohekkegjdaa.Gp
open Go.RowKit Go.Proofs.Ytdfiohekkegjdaa.QI Go.Proofs.YtdfiohekkegjdaaW.PrintWords Go.Proofs.YtdfiohekkegjdaaW.PrintLast Oriel.Lx Go.Proofs.Ytdfiohekkegjdaa.Lx
def leafs : Tm → List Nat
  | .leaf n => [n]
  | .node _ a b => leafs a ++ leafs b
def signsT : Tm → List Nat
  | .leaf _ => []
  | .node s a b => signsT a ++ signsT b ++ [s]
theorem grp_stop (lv : Nat → Int × Bool) {a b : Nat} (h : b ≤ a) : grp lv a b = .leaf a := by
  unfold grp
  rw [show b - a = 0 by omega, grpF]
theorem grp_leafs (lv : Nat → Int × Bool) : ∀ m a b, b - a ≤ m → a ≤ b → leafs (grp lv a b) = List.range' a (b - a + 1)
  | 0, a, b, hm, h => by
    rw [grp_stop lv (show b ≤ a by omega), show b - a = 0 by omega]
    rfl
  | m + 1, a, b, hm, h => by
    rcases Nat.lt_or_ge a b with hab | hab
    · have hb := best_in lv hab
      rw [grp_node lv hab, leafs, grp_leafs lv m a _ (by omega) (by omega), grp_leafs lv m _ b (by omega) (by omega)]
      rw [show best lv a b + 1 = a + (best lv a b - a + 1) by omega, List.range'_append_1]
      congr 1
      omega
    · rw [grp_stop lv hab, show b - a = 0 by omega]
      rfl
theorem grp_count (lv : Nat → Int × Bool) : ∀ m a b j, b - a ≤ m → (signsT (grp lv a b)).count j = if a ≤ j ∧ j < b then 1 else 0
  | 0, a, b, j, hm => by
    rw [grp_stop lv (show b ≤ a by omega), if_neg (by omega)]
    rfl
  | m + 1, a, b, j, hm => by
    rcases Nat.lt_or_ge a b with hab | hab
    · have hb := best_in lv hab
      rw [grp_node lv hab, signsT, List.count_append, List.count_append, grp_count lv m a _ j (by omega), grp_count lv m _ b j (by omega), List.count_singleton]
      by_cases h1 : a ≤ j ∧ j < best lv a b
      · rw [if_pos h1, if_neg (by omega), if_neg (by simp; omega), if_pos (by omega)]
      · rw [if_neg h1]
        by_cases h2 : best lv a b + 1 ≤ j ∧ j < b
        · rw [if_pos h2, if_neg (by simp; omega), if_pos (by omega)]
        · rw [if_neg h2]
          by_cases h3 : best lv a b = j
          · rw [if_pos (by simpa using h3), if_pos (by omega)]
          · rw [if_neg (by simpa using h3), if_neg (by omega)]
    · rw [grp_stop lv hab, if_neg (by omega)]
      rfl
theorem grp_signs_lt (lv : Nat → Int × Bool) (n : Nat) : ∀ x ∈ signsT (grp lv 0 n), x < n := by
  intro x hx
  have h1 := grp_count lv n 0 n x (by omega)
  have h2 := List.count_pos_iff.2 hx
  rw [h1] at h2
  split at h2
  · omega
  · omega
theorem leafs_len : ∀ t : Tm, (leafs t).length = (signsT t).length + 1
  | .leaf n => rfl
  | .node s a b => by
    rw [leafs, signsT, List.length_append, List.length_append, List.length_append, leafs_len a, leafs_len b, List.length_singleton]
    omega
/-- What the best sign of a stretch is. -/
theorem best_spec (lv : Nat → Int × Bool) (a : Nat) : ∀ d, (∀ j, a ≤ j → j < a + 1 + d → (lv (best lv a (a + 1 + d))).1 ≤ (lv j).1) ∧ (∀ j, a ≤ j → j < best lv a (a + 1 + d) → (lv j).1 = (lv (best lv a (a + 1 + d))).1 → (lv (best lv a (a + 1 + d))).2 = false) ∧
    (∀ j, best lv a (a + 1 + d) < j → j < a + 1 + d → (lv j).1 = (lv (best lv a (a + 1 + d))).1 → (lv j).2 = true)
  | 0 => by
    rw [Nat.add_zero, best_one]
    refine ⟨fun j h1 h2 => ?_, fun j h1 h2 => by omega, fun j h1 h2 => by omega⟩
    obtain rfl : j = a := by omega
    exact Int.le_refl _
  | d + 1 => by
    obtain ⟨h1, h2, h3⟩ := best_spec lv a d
    have hin := best_in lv (show a < a + 1 + d by omega)
    rw [show a + 1 + (d + 1) = (a + 1 + d) + 1 by omega, best_succ lv (show a ≤ a + 1 + d by omega)]
    generalize hs : best lv a (a + 1 + d) = s at h1 h2 h3 hin
    generalize hi : a + 1 + d = i at h1 h2 h3 hin
    cases hd : dispB lv s i with
    | true =>
      rw [if_pos rfl]
      rw [dispB_iff] at hd
      refine ⟨fun j g1 g2 => ?_, fun j g1 g2 g3 => ?_, fun j g1 g2 => by omega⟩
      · rcases Nat.lt_or_ge j i with g | g
        · have := h1 j g1 g
          omega
        · obtain rfl : j = i := by omega
          exact Int.le_refl _
      · have := h1 j g1 g2
        rcases hd with hd | hd
        · omega
        · exact hd.2
    | false =>
      rw [if_neg Bool.false_ne_true]
      rw [← Bool.not_eq_true, dispB_iff] at hd
      refine ⟨fun j g1 g2 => ?_, h2, fun j g1 g2 g3 => ?_⟩
      · rcases Nat.lt_or_ge j i with g | g
        · exact h1 j g1 g
        · obtain rfl : j = i := by omega
          have : ¬ (lv j).1 < (lv s).1 := fun g => hd (.inl g)
          omega
      · rcases Nat.lt_or_ge j i with g | g
        · exact h3 j g1 g g3
        · obtain rfl : j = i := by omega
          rw [← Bool.not_eq_false]
          exact fun g => hd (.inr ⟨g3, g⟩)
theorem best_all (lv : Nat → Int × Bool) {a b : Nat} (h : a < b) : (∀ j, a ≤ j → j < b → (lv (best lv a b)).1 ≤ (lv j).1) ∧ (∀ j, a ≤ j → j < best lv a b → (lv j).1 = (lv (best lv a b)).1 → (lv (best lv a b)).2 = false) ∧ (∀ j, best lv a b < j → j < b → (lv j).1 = (lv (best lv a b)).1 → (lv j).2 = true) := by
  have := best_spec lv a (b - (a + 1))
  rwa [show a + 1 + (b - (a + 1)) = b by omega] at this
/-- A level tells from which side. -/
theorem lev_side (s t : T) (h : kindT s = 9) (h' : kindT t = 9) (e : (levT s).1 = (levT t).1) : (levT s).2 = (levT t).2 := by
  have key : ∀ s : T, kindT s = 9 → (levT s).2 = decide ((levT s).1 = 5) := by
    intro s h
    unfold levT
    rw [if_pos h]
    rcases s with _ | ⟨b, r⟩
    · rfl
    · show (levB b).2 = decide ((levB b).1 = 5)
      unfold levB
      repeat' split
      all_goals rfl
  rw [key s h, key t h', e]
/-! ### what the program gathers -/
theorem gth_leaves : ∀ t : Tm, Ev (fun k => gthF group_Leaves.pv group_Leaves.pb k (toS t)) ((leafs t).map fun (n : Nat) => (n : Int))
  | .leaf n => Ev.step (f := fun _ => some [(n : Int)]) (fun k => rfl) (Ev.now _)
  | .node s a b => by
    obtain ⟨K1, h1⟩ := gth_leaves a
    obtain ⟨K2, h2⟩ := gth_leaves b
    refine ⟨K1 + K2 + 1, fun k hk => ?_⟩
    obtain ⟨k, rfl⟩ : ∃ q, k = q + 1 := ⟨k - 1, by omega⟩
    have e : ¬ group_Leaves.pb (s : Int) (-1) = true := by unfold group_Leaves.pb; simp
    have g1 : gthF group_Leaves.pv group_Leaves.pb k (toS a) = some ((leafs a).map fun (n : Nat) => (n : Int)) := h1 k (by omega)
    have g2 : gthF group_Leaves.pv group_Leaves.pb k (toS b) = some ((leafs b).map fun (n : Nat) => (n : Int)) := h2 k (by omega)
    show (if [toS a, toS b].length ≤ 100000 then (gthL (gthF group_Leaves.pv group_Leaves.pb k) [toS a, toS b]).bind fun l => some (l ++ if group_Leaves.pb (s : Int) (-1) = true then [group_Leaves.pv (s : Int) (-1)] else []) else none) = _
    rw [if_pos (by simp), gthL, gthL, gthL, g1, g2, if_neg e]
    simp [leafs]
theorem gth_signs : ∀ t : Tm, Ev (fun k => gthF group_Signs.pv group_Signs.pb k (toS t)) ((signsT t).map fun (n : Nat) => (n : Int))
  | .leaf n => Ev.step (f := fun _ => some []) (fun k => rfl) (Ev.now _)
  | .node s a b => by
    obtain ⟨K1, h1⟩ := gth_signs a
    obtain ⟨K2, h2⟩ := gth_signs b
    refine ⟨K1 + K2 + 1, fun k hk => ?_⟩
    obtain ⟨k, rfl⟩ : ∃ q, k = q + 1 := ⟨k - 1, by omega⟩
    have e : group_Signs.pb (s : Int) (-1) = true := by unfold group_Signs.pb; simp
    have g1 : gthF group_Signs.pv group_Signs.pb k (toS a) = some ((signsT a).map fun (n : Nat) => (n : Int)) := h1 k (by omega)
    have g2 : gthF group_Signs.pv group_Signs.pb k (toS b) = some ((signsT b).map fun (n : Nat) => (n : Int)) := h2 k (by omega)
    show (if [toS a, toS b].length ≤ 100000 then (gthL (gthF group_Signs.pv group_Signs.pb k) [toS a, toS b]).bind fun l => some (l ++ if group_Signs.pb (s : Int) (-1) = true then [group_Signs.pv (s : Int) (-1)] else []) else none) = _
    rw [if_pos (by simp), gthL, gthL, gthL, g1, g2, if_pos e]
    simp [signsT, group_Signs.pv]
theorem eta27 (x : S27) : (⟨x.f0, x.f1, x.f2⟩ : S27) = x := by cases x; rfl
theorem leaves_ev (t : Tm) (h : (leafs t).length ≤ 100000) : Ev (fun k => group_Leaves.f k (toS t).f0 (toS t).f1 (toS t).f2) ((leafs t).map fun (n : Nat) => (n : Int)) := by
  unfold group_Leaves.f
  rw [eta27]
  exact Ev.bind (f := fun _ l => if l.length ≤ 100000 then some l else none) (gth_leaves t) (Ev.congr (f := fun _ => some ((leafs t).map fun (n : Nat) => (n : Int))) (fun k => by rw [if_pos (by rw [List.length_map]; exact h)]) (Ev.now _))
theorem signs_ev (t : Tm) (h : (signsT t).length ≤ 100000) : Ev (fun k => group_Signs.f k (toS t).f0 (toS t).f1 (toS t).f2) ((signsT t).map fun (n : Nat) => (n : Int)) := by
  unfold group_Signs.f
  rw [eta27]
  exact Ev.bind (f := fun _ l => if l.length ≤ 100000 then some l else none) (gth_signs t) (Ev.congr (f := fun _ => some ((signsT t).map fun (n : Nat) => (n : Int))) (fun k => by rw [if_pos (by rw [List.length_map]; exact h)]) (Ev.now _))
/-! ### levels -/
theorem kid_step (l : List ByteArray) (h : Small l) (L : Int) (R : Bool) (kids : List S27) (hk : kids.length = 2) (i : Nat) (hi : i < 2) (t : Tm) (hrd : rd_T27 kids (i : Int) = toS t)
    (IH : Ev (fun k => oriellaw31_levels.f k (toS t).f0 (toS t).f1 (toS t).f2 l) true)
    (hc : ∀ s a b, t = .node s a b → ∃ hs : s < l.length, L ≤ (levT (l[s]).data.toList).1 ∧ ((levT (l[s]).data.toList).1 = L → (((i : Int) == 1) != R) = false))
    (next : Ev (fun k => oriellaw31_levels.l0 k l L R kids 2 ((i + 1 : Nat) : Int)) true) : Ev (fun k => oriellaw31_levels.l0 k l L R kids 2 (i : Int)) true := by
  have hw : wrap64 ((i : Int) + 1) = ((i + 1 : Nat) : Int) := by unfold wrap64; omega
  have tl : Ev (fun k => (oriellaw31_levels.f k (toS t).f0 (toS t).f1 (toS t).f2 l).bind fun t173 => if t173 = true then oriellaw31_levels.l0 k l L R kids 2 ((i + 1 : Nat) : Int) else some false) true := by
    refine Ev.bind (f := fun k t173 => if t173 = true then oriellaw31_levels.l0 k l L R kids 2 ((i + 1 : Nat) : Int) else some false) IH ?_
    simp only [if_true]
    exact next
  cases t with
  | leaf n =>
    refine Ev.step (f := fun k => (oriellaw31_levels.f k (toS (.leaf n)).f0 (toS (.leaf n)).f1 (toS (.leaf n)).f2 l).bind fun t173 => if t173 = true then oriellaw31_levels.l0 k l L R kids 2 ((i + 1 : Nat) : Int) else some false) (fun k => ?_) tl
    rw [oriellaw31_levels.l0, if_pos (by omega), if_pos (by omega), if_pos (by omega), hrd, if_neg (show ¬ ((toS (.leaf n)).f0 ≥ 0) by show ¬ ((-1 : Int) ≥ 0); omega), hw]
  | node s a b =>
    obtain ⟨hs, hL, hR⟩ := hc s a b rfl
    have jn : Ev (fun k => oriellaw31_levels.j2 k l L R kids 2 (i : Int) false (toS (.node s a b)).f0 (toS (.node s a b)).f1 (toS (.node s a b)).f2) true := by
      refine Ev.step (f := fun k => (oriellaw31_levels.f k (toS (.node s a b)).f0 (toS (.node s a b)).f1 (toS (.node s a b)).f2 l).bind fun t173 => if t173 = true then oriellaw31_levels.l0 k l L R kids 2 ((i + 1 : Nat) : Int) else some false) (fun k => ?_) tl
      rw [oriellaw31_levels.j2, if_neg Bool.false_ne_true, hw]
    have h0 : (toS (.node s a b)).f0 = (s : Int) := rfl
    refine Ev.step (f := fun k => (name_Level.f k l[s]).bind fun bt170 => if bt170.1 < L then oriellaw31_levels.j2 k l L R kids 2 (i : Int) true (toS (.node s a b)).f0 (toS (.node s a b)).f1 (toS (.node s a b)).f2 else if bt170.1 = L then oriellaw31_levels.j2 k l L R kids 2 (i : Int) (((i : Int) == 1) != R) (toS (.node s a b)).f0 (toS (.node s a b)).f1 (toS (.node s a b)).f2 else oriellaw31_levels.j2 k l L R kids 2 (i : Int) false (toS (.node s a b)).f0 (toS (.node s a b)).f1 (toS (.node s a b)).f2) (fun k => ?_) ?_
    · rw [oriellaw31_levels.l0, if_pos (by omega), if_pos (by omega), if_pos (by omega), hrd, if_pos (show (toS (.node s a b)).f0 ≥ 0 by rw [h0]; omega), if_pos (show 0 ≤ (toS (.node s a b)).f0 by rw [h0]; omega), if_pos (show (toS (.node s a b)).f0 < (l.length : Int) by rw [h0]; omega)]
      rw [show rdOf ByteArray.empty l (toS (.node s a b)).f0 = l[s] from rd_at l s hs]
    · refine Ev.bind (f := fun k bt170 => if bt170.1 < L then oriellaw31_levels.j2 k l L R kids 2 (i : Int) true (toS (.node s a b)).f0 (toS (.node s a b)).f1 (toS (.node s a b)).f2 else if bt170.1 = L then oriellaw31_levels.j2 k l L R kids 2 (i : Int) (((i : Int) == 1) != R) (toS (.node s a b)).f0 (toS (.node s a b)).f1 (toS (.node s a b)).f2 else oriellaw31_levels.j2 k l L R kids 2 (i : Int) false (toS (.node s a b)).f0 (toS (.node s a b)).f1 (toS (.node s a b)).f2) (level_ev _ (h.at s hs)) ?_
      simp only [if_neg (show ¬ (levT (l[s]).data.toList).1 < L by omega)]
      by_cases e : (levT (l[s]).data.toList).1 = L
      · simp only [if_pos e, hR e]
        exact jn
      · simp only [if_neg e]
        exact jn
theorem allS_at {l : List ByteArray} (h : allS l = true) (i : Nat) (hi : i < l.length) : kindT (l[i]).data.toList = 9 := by
  unfold allS at h
  have := List.all_eq_true.1 h _ (List.getElem_mem hi)
  exact beq_iff_eq.1 this
theorem levels_ev (l : List ByteArray) (h : Small l) (hA : allS l = true) : ∀ m a b, b - a ≤ m → b ≤ l.length → Ev (fun k => oriellaw31_levels.f k (toS (grp (lvF (levs l)) a b)).f0 (toS (grp (lvF (levs l)) a b)).f1 (toS (grp (lvF (levs l)) a b)).f2 l) true := by
  have leaf : ∀ n : Nat, Ev (fun k => oriellaw31_levels.f k (toS (.leaf n)).f0 (toS (.leaf n)).f1 (toS (.leaf n)).f2 l) true := by
    intro n
    refine Ev.step (f := fun k => oriellaw31_levels.j0 k l true (-1) n []) (fun k => ?_) ?_
    · show oriellaw31_levels.f (k + 1) (-1) n [] l = _
      rw [oriellaw31_levels.f, if_pos (by omega)]
    · exact Ev.step (f := fun _ => some true) (fun k => by rw [oriellaw31_levels.j0, if_pos rfl]; rfl) (Ev.now _)
  intro m
  induction m with
  | zero =>
    intro a b hm hb
    rw [grp_stop _ (show b ≤ a by omega)]
    exact leaf a
  | succ m ih =>
    intro a b hm hb
    rcases Nat.lt_or_ge a b with hab | hab
    · have hin := best_in (lvF (levs l)) hab
      obtain ⟨B1, B2, B3⟩ := best_all (lvF (levs l)) hab
      rw [grp_node _ hab]
      generalize best (lvF (levs l)) a b = s at hin B1 B2 B3
      have hs : s < l.length := by omega
      have iA := ih a s (by omega) (by omega)
      have iB := ih (s + 1) b (by omega) hb
      refine Ev.step (f := fun k => oriellaw31_levels.j0 k l false s (-1) [toS (grp (lvF (levs l)) a s), toS (grp (lvF (levs l)) (s + 1) b)]) (fun k => ?_) ?_
      · show oriellaw31_levels.f (k + 1) (s : Int) (-1) [toS (grp (lvF (levs l)) a s), toS (grp (lvF (levs l)) (s + 1) b)] l = _
        rw [oriellaw31_levels.f, if_neg (by omega)]
        rfl
      refine Ev.step (f := fun k => (name_Level.f k l[s]).bind fun bt => oriellaw31_levels.l0 k l bt.1 bt.2 [toS (grp (lvF (levs l)) a s), toS (grp (lvF (levs l)) (s + 1) b)] 2 0) (fun k => ?_) ?_
      · rw [oriellaw31_levels.j0, if_neg Bool.false_ne_true, if_pos (by omega), if_pos (by omega), rd_at l s hs]
        rfl
      refine Ev.bind (f := fun k bt => oriellaw31_levels.l0 k l bt.1 bt.2 [toS (grp (lvF (levs l)) a s), toS (grp (lvF (levs l)) (s + 1) b)] 2 0) (level_ev _ (h.at s hs)) ?_
      rw [lvF_at l s hs] at B1 B2 B3
      refine kid_step l h _ _ _ rfl 0 (by omega) (grp (lvF (levs l)) a s) rfl iA (fun s' a' b' e => ?_) (kid_step l h _ _ _ rfl 1 (by omega) (grp (lvF (levs l)) (s + 1) b) rfl iB (fun s' a' b' e => ?_) ?_)
      · rcases Nat.lt_or_ge a s with g | g
        · have hin2 := best_in (lvF (levs l)) g
          rw [grp_node _ g] at e
          injection e with e1 _ _
          rw [e1] at hin2
          have hs' : s' < l.length := by omega
          have b1 := B1 s' hin2.1 (by omega)
          have b2 := B2 s' hin2.1 hin2.2
          rw [lvF_at l s' hs'] at b1 b2
          refine ⟨hs', b1, fun eq => ?_⟩
          rw [b2 eq]
          rfl
        · rw [grp_stop _ g] at e
          cases e
      · rcases Nat.lt_or_ge (s + 1) b with g | g
        · have hin2 := best_in (lvF (levs l)) g
          rw [grp_node _ g] at e
          injection e with e1 _ _
          rw [e1] at hin2
          have hs' : s' < l.length := by omega
          have b1 := B1 s' (by omega) (by omega)
          have b3 := B3 s' (by omega) hin2.2
          rw [lvF_at l s' hs'] at b1 b3
          refine ⟨hs', b1, fun eq => ?_⟩
          rw [← lev_side _ _ (allS_at hA s' hs') (allS_at hA s hs) eq, b3 eq]
          rfl
        · rw [grp_stop _ g] at e
          cases e
      · exact Ev.step (f := fun _ => some true) (fun k => by rw [oriellaw31_levels.l0, if_neg (by omega)]) (Ev.now _)
    · rw [grp_stop _ hab]
      exact leaf a
end Go.Proofs.Ytdfiohekkegjdaa.Gp
