-- Laid by this claim's own program (mprint.py in the repo).
import Derived.Test.YtdfiohekkegjdaaQIx0
import Derived.Test.YtdfiohekkegjdaaQIx4
namespace Go.Proofs.Ytdfiohekkegjdaa.QI
open Go.RowKit Go.Proofs.YtdfiohekkegjdaaW.PrintWords Go.Proofs.YtdfiohekkegjdaaW.PrintLast Go.Proofs.YtdfiohekkegjdaaW.PrintMore
attribute [local go_sem] max2_int min2_int max_two min_two max_three min_three max_four min_four   -- for this text's walks alone
set_option linter.unusedVariables false
set_option linter.unusedSimpArgs false

/-! ### group_Group: function 8 -/
theorem least_ex (p : Nat → Prop) (h : ∃ k, p k) : ∃ k, p k ∧ ∀ j, p j → k ≤ j := by
  obtain ⟨k, hk⟩ := h
  induction k using Nat.strongRecOn with
  | _ k ih =>
    by_cases hj : ∃ j, j < k ∧ p j
    · obtain ⟨j, hlt, hp⟩ := hj
      exact ih j hlt hp
    · exact ⟨k, hk, fun j hp => Nat.le_of_not_lt fun hlt => hj ⟨j, hlt, hp⟩⟩
theorem scope_fuel {P : Program} {a : Act} {w : World} {Q : Exit → Act → World → Prop} {c rest : Code} (l : Nat) (J : Nat → Act → World → Prop) (hf : findLabel c l = some (Code.skip.seq rest))
    (first : Aside0 (∀ k a w, J k a w → rest.wp P (Exit.jump l (fun a w => ∃ k, J k a w) Q) a w) → c.wp P (Exit.jump l (fun a w => ∃ k, J k a w) Q) a w)
    (pass : ∀ k a w, J k a w → rest.wp P (Exit.jump l (fun a' w' => ∃ k', k' < k ∧ J k' a' w') Q) a w) : (Code.scope c).wp P Q a w := by
  classical
  refine wp_scope_jumps l (fun a w => ∃ k, J k a w) (fun a w => if h : ∃ k, J k a w then Classical.choose (least_ex (fun k => J k a w) h) else 0) hf (first ⟨fun k a w hj => wp_mono (pass k a w hj) fun e a' w' h => ?_⟩) ?_
  · cases e with
    | goto l' =>
      obtain ⟨h1, k', _, hj⟩ := h
      exact ⟨h1, k', hj⟩
    | normal => exact h
    | exit _ => exact h
    | ret => exact h
    | panic _ => exact h
    | outgrown => exact h
  intro a w hJ
  have hs := Classical.choose_spec (least_ex (fun k => J k a w) hJ)
  refine wp_mono (wp_seq (wp_skip (pass _ a w hs.1))) ?_
  intro e a' w' h
  cases e with
  | goto l' =>
    obtain ⟨rfl, k', hk, hj⟩ := h
    refine ⟨rfl, ⟨k', hj⟩, ?_⟩
    have hex : ∃ k, J k a' w' := ⟨k', hj⟩
    have h1 := (Classical.choose_spec (least_ex (fun k => J k a' w') hex)).2 k' hj
    rw [dif_pos hex, dif_pos hJ]
    omega
  | normal => exact h
  | exit _ => exact h
  | ret => exact h
  | panic _ => exact h
  | outgrown => exact h

/-- A leaf, or a sign that is applied. -/
inductive Tm where
  | leaf (n : Nat)
  | node (s : Nat) (l r : Tm)
/-- Does a sign take the place of the one that binds least so far? -/
def dispB (lv : Nat → Int × Bool) (b i : Nat) : Bool := decide ((lv i).1 < (lv b).1) || (decide ((lv i).1 = (lv b).1) && !(lv i).2)
theorem dispB_iff (lv : Nat → Int × Bool) (b i : Nat) : dispB lv b i = true ↔ (lv i).1 < (lv b).1 ∨ ((lv i).1 = (lv b).1 ∧ (lv i).2 = false) := by
  unfold dispB
  simp
def bst (lv : Nat → Int × Bool) : Nat → Nat → Nat → Nat
  | 0, _, b => b
  | d + 1, i, b => bst lv d (i + 1) (if dispB lv b i = true then i else b)
theorem bst_snoc (lv : Nat → Int × Bool) : ∀ (d i b : Nat), bst lv (d + 1) i b = if dispB lv (bst lv d i b) (i + d) = true then i + d else bst lv d i b
  | 0, i, b => rfl
  | d + 1, i, b => by
    rw [bst, bst_snoc lv d (i + 1), show i + 1 + d = i + (d + 1) by omega]
    rfl
theorem bst_in (lv : Nat → Int × Bool) : ∀ (d i b lo : Nat), lo ≤ b → b < i + d → lo ≤ i → lo ≤ bst lv d i b ∧ bst lv d i b < i + d
  | 0, i, b, lo, h1, h2, h3 => ⟨h1, h2⟩
  | d + 1, i, b, lo, h1, h2, h3 => by
    rw [bst]
    split
    · have := bst_in lv d (i + 1) i lo h3 (by omega) (by omega)
      omega
    · rcases Nat.lt_or_ge b (i + 1 + d) with h | h
      · have := bst_in lv d (i + 1) b lo h1 h (by omega)
        omega
      · omega
def best (lv : Nat → Int × Bool) (fr te : Nat) : Nat := bst lv (te - fr) fr fr
theorem best_in (lv : Nat → Int × Bool) {fr te : Nat} (h : fr < te) : fr ≤ best lv fr te ∧ best lv fr te < te := by
  have := bst_in lv (te - fr) fr fr fr (Nat.le_refl _) (by omega) (Nat.le_refl _)
  unfold best
  omega
theorem best_succ (lv : Nat → Int × Bool) {fr i : Nat} (h : fr ≤ i) : best lv fr (i + 1) = if dispB lv (best lv fr i) i = true then i else best lv fr i := by
  unfold best
  rw [show i + 1 - fr = (i - fr) + 1 by omega, bst_snoc, show fr + (i - fr) = i by omega]
theorem best_one (lv : Nat → Int × Bool) (i : Nat) : best lv i (i + 1) = i := by
  rw [best_succ lv (Nat.le_refl i)]
  unfold best
  rw [Nat.sub_self, bst]
  split <;> rfl
def grpF (lv : Nat → Int × Bool) : Nat → Nat → Nat → Tm
  | 0, fr, _ => .leaf fr
  | f + 1, fr, te => if te ≤ fr then .leaf fr else .node (best lv fr te) (grpF lv f fr (best lv fr te)) (grpF lv f (best lv fr te + 1) te)
theorem grpF_fuel (lv : Nat → Int × Bool) : ∀ (f g fr te : Nat), te - fr ≤ f → te - fr ≤ g → grpF lv f fr te = grpF lv g fr te
  | 0, 0, _, _, _, _ => rfl
  | 0, g + 1, fr, te, h1, h2 => by rw [grpF, grpF, if_pos (by omega)]
  | f + 1, 0, fr, te, h1, h2 => by rw [grpF, grpF, if_pos (by omega)]
  | f + 1, g + 1, fr, te, h1, h2 => by
    rw [grpF, grpF]
    split
    · rfl
    · have := best_in lv (show fr < te by omega)
      rw [grpF_fuel lv f g fr _ (by omega) (by omega), grpF_fuel lv f g _ te (by omega) (by omega)]
def grp (lv : Nat → Int × Bool) (fr te : Nat) : Tm := grpF lv (te - fr) fr te
theorem grp_leaf (lv : Nat → Int × Bool) (i : Nat) : grp lv i i = .leaf i := by
  unfold grp
  rw [Nat.sub_self, grpF]
theorem grp_node (lv : Nat → Int × Bool) {fr te : Nat} (h : fr < te) : grp lv fr te = .node (best lv fr te) (grp lv fr (best lv fr te)) (grp lv (best lv fr te + 1) te) := by
  have := best_in lv h
  unfold grp
  rw [grpF_fuel lv (te - fr) (te - fr - 1 + 1) fr te (by omega) (by omega), grpF, if_neg (by omega), grpF_fuel lv (te - fr - 1) (best lv fr te - fr) fr _ (by omega) (by omega), grpF_fuel lv (te - fr - 1) (te - (best lv fr te + 1)) _ te (by omega) (by omega)]
/-! ### the program's rows: what waits, the terms, the last one first -/
def popG (lv : Nat → Int × Bool) (i : Nat) : List Nat → List Tm → List Nat × List Tm
  | w :: W, b :: a :: T => if dispB lv w i = true then popG lv i W (.node w a b :: T) else (w :: W, b :: a :: T)
  | W, T => (W, T)
def runG (lv : Nat → Int × Bool) : Nat → Nat → List Nat → List Tm → List Nat × List Tm
  | 0, _, W, T => (W, T)
  | d + 1, i, W, T => runG lv d (i + 1) (i :: (popG lv i W T).1) (.leaf (i + 1) :: (popG lv i W T).2)
def endG : List Nat → List Tm → List Tm
  | w :: W, b :: a :: T => endG W (.node w a b :: T)
  | _, T => T
def start : List Nat → Nat
  | [] => 0
  | u :: _ => u + 1
def ChainG (lv : Nat → Int × Bool) (i : Nat) : Nat → List Nat → List Tm → Prop
  | hi, [], T => T = [grp lv 0 hi]
  | hi, w :: W, [] => False
  | hi, w :: W, t :: T => t = grp lv (w + 1) hi ∧ w < hi ∧ start W ≤ w ∧ best lv (start W) i = w ∧ (∀ u ∈ W.head?, (lv u).1 ≤ (lv w).1) ∧ ChainG lv i w W T
theorem chain_top {lv : Nat → Int × Bool} {i hi : Nat} : ∀ {W : List Nat} {t : Tm} {T : List Tm}, ChainG lv i hi W (t :: T) → t = grp lv (start W) hi
  | [], t, T, h => by
    have : t :: T = [grp lv 0 hi] := h
    exact (List.cons.inj this).1
  | w :: W, t, T, h => h.1
theorem chain_some {lv : Nat → Int × Bool} {i hi : Nat} : ∀ {W : List Nat} {T : List Tm}, ChainG lv i hi W T → ∃ t T', T = t :: T'
  | [], T, h => ⟨_, _, h⟩
  | w :: W, t :: T, h => ⟨_, _, rfl⟩
theorem chain_len {lv : Nat → Int × Bool} {i : Nat} : ∀ {W : List Nat} {T : List Tm} {hi : Nat}, ChainG lv i hi W T → T.length = W.length + 1
  | [], T, hi, h => by rw [show T = [grp lv 0 hi] from h]; rfl
  | w :: W, t :: T, hi, h => by simp [chain_len h.2.2.2.2.2]
theorem chain_pop {lv : Nat → Int × Bool} {i : Nat} {w : Nat} {W : List Nat} {b a : Tm} {T : List Tm} (h : ChainG lv i i (w :: W) (b :: a :: T)) : ChainG lv i i W (.node w a b :: T) := by
  obtain ⟨h1, h2, h3, h4, h5, h6⟩ := h
  have ha := chain_top h6
  have hn : Tm.node w a b = grp lv (start W) i := by rw [grp_node lv (show start W < i by omega), h4, ha, h1]
  cases W with
  | nil =>
    have : a :: T = [grp lv 0 w] := h6
    rw [(List.cons.inj this).2, hn]
    exact rfl
  | cons u W =>
    obtain ⟨g1, g2, g3, g4, g5, g6⟩ := h6
    exact ⟨hn, by omega, g3, g4, g5, g6⟩
theorem popG_spec (lv : Nat → Int × Bool) (i : Nat) : ∀ (W : List Nat) (T : List Tm), ChainG lv i i W T → (start W = i ∨ dispB lv (best lv (start W) i) i = true) → start W ≤ i →
    ChainG lv i i (popG lv i W T).1 (popG lv i W T).2 ∧ (start (popG lv i W T).1 = i ∨ dispB lv (best lv (start (popG lv i W T).1) i) i = true) ∧ start (popG lv i W T).1 ≤ i ∧ (∀ u ∈ (popG lv i W T).1.head?, dispB lv u i = false)
  | [], T, h, hg, hs => by
    rw [popG.eq_def]
    exact ⟨h, hg, hs, fun u hu => by cases hu⟩
  | w :: W, [], h, hg, hs => absurd h (by intro h; exact h)
  | w :: W, [t], h, hg, hs => by
    have := chain_len h
    simp at this
  | w :: W, b :: a :: T, h, hg, hs => by
    rw [popG]
    cases hd : dispB lv w i with
    | true =>
      rw [if_pos rfl]
      have h2 := h
      obtain ⟨h1, h2, h3, h4, h5, h6⟩ := h2
      exact popG_spec lv i W _ (chain_pop h) (.inr (by rw [h4]; exact hd)) (by omega)
    | false =>
      rw [if_neg Bool.false_ne_true]
      refine ⟨h, hg, hs, fun u hu => ?_⟩
      obtain rfl := Option.some.inj hu
      exact hd
theorem disp_mono {lv : Nat → Int × Bool} {u w i : Nat} (h : (lv u).1 ≤ (lv w).1) (hd : dispB lv w i = false) : dispB lv u i = false := by
  rw [← Bool.not_eq_true, dispB_iff] at hd ⊢
  rintro (h1 | ⟨h1, h2⟩)
  · exact hd (.inl (by omega))
  · rcases Int.lt_or_eq_of_le h with h3 | h3
    · exact hd (.inl (by omega))
    · exact hd (.inr ⟨by omega, h2⟩)
theorem chain_next {lv : Nat → Int × Bool} {i : Nat} : ∀ {W : List Nat} {T : List Tm} {hi : Nat}, hi ≤ i → ChainG lv i hi W T → (∀ u ∈ W.head?, dispB lv u i = false) → ChainG lv (i + 1) hi W T
  | [], T, hi, hle, h, hd => h
  | w :: W, t :: T, hi, hle, ⟨h1, h2, h3, h4, h5, h6⟩, hd => by
    have hw := hd w rfl
    exact ⟨h1, h2, h3, by rw [best_succ lv (show start W ≤ i by omega), h4, hw, if_neg Bool.false_ne_true], h5, chain_next (by omega) h6 fun u hu => disp_mono (h5 u hu) hw⟩
theorem runG_spec (lv : Nat → Int × Bool) : ∀ (d i : Nat) (W : List Nat) (T : List Tm), ChainG lv i i W T → start W = i → ChainG lv (i + d) (i + d) (runG lv d i W T).1 (runG lv d i W T).2
  | 0, i, W, T, h, hs => h
  | d + 1, i, W, T, h, hs => by
    obtain ⟨h1, h2, h3, h4⟩ := popG_spec lv i W T h (.inl hs) (by omega)
    rw [runG, show i + (d + 1) = i + 1 + d by omega]
    refine runG_spec lv d (i + 1) _ _ ⟨(grp_leaf lv (i + 1)).symm, by omega, h3, ?_, fun u hu => ?_, chain_next (Nat.le_refl _) h1 h4⟩ rfl
    · rw [best_succ lv h3]
      rcases h2 with h2 | h2
      · rw [h2]
        have : best lv i i = i := by unfold best; rw [Nat.sub_self, bst]
        rw [this]
        split <;> rfl
      · rw [if_pos h2]
    · have := h4 u hu
      rw [← Bool.not_eq_true, dispB_iff] at this
      omega
theorem endG_spec (lv : Nat → Int × Bool) (n : Nat) : ∀ (W : List Nat) (T : List Tm), ChainG lv n n W T → endG W T = [grp lv 0 n]
  | [], T, h => by rw [endG.eq_def]; exact h
  | w :: W, [], h => absurd h (by intro h; exact h)
  | w :: W, [t], h => by
    have := chain_len h
    simp at this
  | w :: W, b :: a :: T, h => by
    rw [endG]
    exact endG_spec lv n W _ (chain_pop h)
/-- The program's rows make the document's term. -/
theorem group_tells (lv : Nat → Int × Bool) (n : Nat) : endG (runG lv n 0 [] [.leaf 0]).1 (runG lv n 0 [] [.leaf 0]).2 = [grp lv 0 n] := by
  have h := runG_spec lv n 0 [] [.leaf 0] (by show [Tm.leaf 0] = [grp lv 0 0]; rw [grp_leaf]) rfl
  rw [Nat.zero_add] at h
  exact endG_spec lv n _ _ h
theorem runG_snoc (lv : Nat → Int × Bool) : ∀ (d i : Nat) (W : List Nat) (T : List Tm), runG lv (d + 1) i W T = ((i + d) :: (popG lv (i + d) (runG lv d i W T).1 (runG lv d i W T).2).1, .leaf (i + d + 1) :: (popG lv (i + d) (runG lv d i W T).1 (runG lv d i W T).2).2)
  | 0, i, W, T => rfl
  | d + 1, i, W, T => by
    rw [runG, runG_snoc lv d (i + 1), runG, show i + 1 + d = i + (d + 1) by omega]
/-- After so many signs. -/
def stG (lv : Nat → Int × Bool) (j : Nat) : List Nat × List Tm := runG lv j 0 [] [.leaf 0]
theorem stG_succ (lv : Nat → Int × Bool) (j : Nat) : stG lv (j + 1) = (j :: (popG lv j (stG lv j).1 (stG lv j).2).1, .leaf (j + 1) :: (popG lv j (stG lv j).1 (stG lv j).2).2) := by
  unfold stG
  rw [runG_snoc, Nat.zero_add]
/-- What is known of the rows: as many terms as signs that wait, and one; all below a bound. -/
def OkG (n : Nat) (W : List Nat) (T : List Tm) : Prop := T.length = W.length + 1 ∧ (∀ u ∈ W, u < n) ∧ W.length ≤ n
theorem OkG.pop {n u : Nat} {W : List Nat} {b a : Tm} {T : List Tm} (h : OkG n (u :: W) (b :: a :: T)) : OkG n W (.node u a b :: T) := by
  obtain ⟨h1, h2, h3⟩ := h
  exact ⟨by simp at h1 ⊢; omega, fun x hx => h2 x (List.mem_cons_of_mem _ hx), by simp at h3; omega⟩
theorem OkG.two {n u : Nat} {W : List Nat} {T : List Tm} (h : OkG n (u :: W) T) : ∃ b a T', T = b :: a :: T' := by
  obtain ⟨h1, _, _⟩ := h
  match T, h1 with
  | b :: a :: T', _ => exact ⟨b, a, T', rfl⟩
  | [], h1 => simp at h1
  | [b], h1 => simp at h1
theorem popG_ok (lv : Nat → Int × Bool) (i n : Nat) : ∀ (W : List Nat) (T : List Tm), OkG n W T → OkG n (popG lv i W T).1 (popG lv i W T).2 ∧ (popG lv i W T).1.length ≤ W.length
  | [], T, h => by rw [popG.eq_def]; exact ⟨h, Nat.le_refl _⟩
  | u :: W, T, h => by
    obtain ⟨b, a, T, rfl⟩ := h.two
    rw [popG]
    split
    · have := popG_ok lv i n W _ h.pop
      exact ⟨this.1, by simp only [List.length_cons]; omega⟩
    · exact ⟨h, Nat.le_refl _⟩
theorem stG_ok (lv : Nat → Int × Bool) (n : Nat) : ∀ j, j ≤ n → OkG n (stG lv j).1 (stG lv j).2 ∧ (stG lv j).1.length ≤ j
  | 0, _ => ⟨⟨rfl, (fun u hu => (by cases hu)), Nat.zero_le _⟩, Nat.le_refl _⟩
  | j + 1, hj => by
    obtain ⟨h1, h2⟩ := stG_ok lv n j (by omega)
    obtain ⟨⟨g1, g2, g3⟩, g4⟩ := popG_ok lv j n _ _ h1
    rw [stG_succ]
    refine ⟨⟨by simp [g1], fun u hu => ?_, by simp only [List.length_cons]; omega⟩, by simp only [List.length_cons]; omega⟩
    rcases List.mem_cons.1 hu with rfl | hu
    · omega
    · exact g2 u hu
theorem endG_ok {n : Nat} : ∀ {W : List Nat} {T : List Tm}, OkG n W T → ∃ t, endG W T = [t]
  | [], T, h => by
    obtain ⟨h1, _, _⟩ := h
    match T, h1 with
    | [t], _ => exact ⟨t, by rw [endG.eq_def]⟩
  | u :: W, T, h => by
    obtain ⟨b, a, T, rfl⟩ := h.two
    rw [endG]
    exact endG_ok h.pop
theorem stG_ends (lv : Nat → Int × Bool) (n : Nat) : endG (stG lv n).1 (stG lv n).2 = [grp lv 0 n] := group_tells lv n
theorem popG_stop {lv : Nat → Int × Bool} {i u : Nat} {W : List Nat} {b a : Tm} {T : List Tm} (h : dispB lv u i = false) : popG lv i (u :: W) (b :: a :: T) = (u :: W, b :: a :: T) := by
  rw [popG, h, if_neg Bool.false_ne_true]
theorem popG_go {lv : Nat → Int × Bool} {i u : Nat} {W : List Nat} {b a : Tm} {T : List Tm} (h : dispB lv u i = true) : popG lv i (u :: W) (b :: a :: T) = popG lv i W (.node u a b :: T) := by
  rw [popG, h, if_pos rfl]
theorem popG_nil (lv : Nat → Int × Bool) (i : Nat) (T : List Tm) : popG lv i [] T = ([], T) := by rw [popG.eq_def]
theorem set3_take (l : List Value) (p : Nat) (x y z : Value) (h : (p + 1) * 3 ≤ l.length) : (((l.set (p * 3) x).set (p * 3 + 1) y).set (p * 3 + 2) z).take ((p + 1) * 3) = l.take (p * 3) ++ [x, y, z] := by
  have hp : (l.take (p * 3)).length = p * 3 := by rw [List.length_take]; omega
  apply List.ext_getElem?
  intro j
  rcases Nat.lt_or_ge j (p * 3) with h1 | h1
  · rw [List.getElem?_append_left (by omega), List.getElem?_take, if_pos (by omega), List.getElem?_take, if_pos h1, List.getElem?_set_ne (by omega), List.getElem?_set_ne (by omega), List.getElem?_set_ne (by omega)]
  · rw [List.getElem?_append_right (by omega), hp]
    rcases Nat.lt_or_ge j ((p + 1) * 3) with h2 | h2
    · rw [List.getElem?_take, if_pos h2]
      obtain h3 | h3 | h3 : j = p * 3 ∨ j = p * 3 + 1 ∨ j = p * 3 + 2 := by omega
      · subst h3
        rw [List.getElem?_set_ne (by omega), List.getElem?_set_ne (by omega), List.getElem?_set_self (by omega), Nat.sub_self]
        rfl
      · subst h3
        rw [List.getElem?_set_ne (by omega), List.getElem?_set_self (by rw [List.length_set]; omega), Nat.add_sub_cancel_left]
        rfl
      · subst h3
        rw [List.getElem?_set_self (by rw [List.length_set, List.length_set]; omega), Nat.add_sub_cancel_left]
        rfl
    · rw [List.getElem?_eq_none (by rw [List.length_take]; omega), List.getElem?_eq_none (by simp; omega)]

/-- The stack, in memory: terms, and what waits. -/
def IsSt (w0 W : World) (g : Nat) (A : Option Addr) (c n : Nat) (ts : List S27) (xs : List Int) : Prop :=
  ∃ vT vX, W.heap[g]? = some (.cells #[.slice A n c, vT, vX] 46 (0, 0)) ∧ w0.heap.size ≤ g ∧ Kd.R k27 27 W w0.heap.size (fun k => k ≠ g ∧ some k ≠ vX.ownBlock) vT ts ∧ Kd.R (Kd.int .i64) 3 W w0.heap.size (fun k => k ≠ g) vX xs ∧ Below w0.heap.size w0 W
theorem IsSt.below {w0 W W1 : World} {g : Nat} {A : Option Addr} {c n : Nat} {ts : List S27} {xs : List Int} (h : IsSt w0 W g A c n ts xs) (hb : Below W.heap.size W W1) : IsSt w0 W1 g A c n ts xs := by
  obtain ⟨vT, vX, h1, h2, h3, h4, h5⟩ := h
  exact ⟨vT, vX, (hb.block _ (blk_lt h1)).trans h1, h2, Kd.R_below h3 hb, Kd.R_below h4 hb, below_step h5 hb⟩

def strg_T3 : Bool × List (List Nat × List Nat) := (true, [([], []), ([0], [0]), ([1], [1]), ([2], [2]), ([], []), ([4], [4]), ([5], [5]), ([6], [6]), ([], []), ([8], [8]), ([9], [9]), ([10], [10]), ([11], [11]), ([12], [12]), ([7, 13], [7, 13]), ([14], [14]), ([3, 15], [3, 15]), ([16], [16]), ([17], [17]), ([18], [18]), ([19], [19]), ([19], [19]), ([20, 18, 0, 1, 2, 3, 4, 5, 6, 7, 8, 9, 10, 11, 12, 13, 14, 15, 16, 17, 18, 19, 20], [20]), ([21, 22, 0, 1, 2, 3, 4, 5, 6, 7, 8, 9, 10, 11, 12, 13, 14, 15, 16, 17, 18, 19, 20, 21, 22], [21])])
def strg_B3 : List Nat := [0, 1, 3, 7, 0, 16, 48, 112, 0, 256, 768, 1792, 3840, 7936, 16368, 32752, 65535, 131071, 262143, 524287, 1048575, 1048575, 2097151, 8388607]
theorem strg_tab3 : rtab .any (opsOf Try.f19 3) = strg_T3 := by kernel_rfl
theorem strg_bits3 : waitsOk strg_T3.2 strg_B3 = true := by kernel_rfl

set_option maxHeartbeats 4000000 in
set_option maxRecDepth 100000 in
theorem stack_stronger {w0 W : World} {g : Nat} {A : Option Addr} {c n : Nat} {ts : List S27} {xs : List Int} {t : Int} (hI : IsSt w0 W g A c n ts (xs ++ [t])) (sg : List ByteArray) (hsl : sg.length = n) (hC : Kd.C Kd.string W A n sg) (h0 : 0 ≤ t) (h1 : t < (n : Int)) (x y : ByteArray) (hy : rdOf ByteArray.empty sg t = y) (la lb : Int) (ra rb : Bool)
    (hA : ∀ W' : World, Calls Try.prog 18 #[.string y] W' fun e w' => e = .returned (.tuple #[.int .i64 la, .bool ra]) ∧ Below W'.heap.size W' w')
    (hB : ∀ W' : World, Calls Try.prog 18 #[.string x] W' fun e w' => e = .returned (.tuple #[.int .i64 lb, .bool rb]) ∧ Below W'.heap.size W' w') :
    Calls Try.prog 19 #[.pointer (some ⟨g, 0, none⟩), .string x] W fun e w' => e = .returned (.bool (decide (lb < la) || (decide (la = lb) && !rb))) ∧ Below W.heap.size W w' := by
  have hu38 := Try.underlying38
  have hu22 := Try.underlying22
  have hu44 := Try.underlying46
  have HLA := Aside0.mk hA
  have HLB := Aside0.mk hB
  obtain ⟨vT, vX, hg, hg0, hT, hX, hb0⟩ := hI
  obtain ⟨m, hm⟩ : ∃ m, xs.length = m := ⟨_, rfl⟩
  have hlen : (xs ++ [t]).length = m + 1 := by rw [List.length_append, hm]; rfl
  obtain ⟨bx, cx, hv, hbx, -, -⟩ := Kd.R_form hX (by rw [hlen]; omega)
  obtain ⟨nx, hnx⟩ : ∃ nx, m + 1 = nx := ⟨_, rfl⟩
  rw [hnx] at hlen
  rw [hlen] at hv
  subst hv
  obtain ⟨-, hcx, hCX⟩ := Kd.R_reads' hX
  have hmx := Kd.C_max hCX
  rw [hlen] at hmx
  obtain ⟨ad, ead, hx0⟩ := Kd.at_int hCX (m : Int) (by omega) (by omega)
  cases ead
  rw [Int.toNat_natCast] at hx0
  have hrd : rd (xs ++ [t]) (m : Int) = t := by
    show (xs ++ [t]).getD m 0 = t
    rw [List.getD_eq_getElem?_getD, ← hm, List.getElem?_concat_length]
    rfl
  rw [hrd] at hx0
  rw [Addr.add_lit, Nat.zero_add] at hx0
  have qx : W.drew.cell? ⟨bx, m, none⟩ = some (.int .i64 t) := hx0
  obtain ⟨adS, eS, hs0⟩ := Kd.at_string hC t h0 h1
  cases eS
  rw [hy] at hs0
  have qs : W.drew.cell? (adS.add t.toNat) = some (.string y) := hs0
  have q0 : W.drew.cell? ⟨g, 0, none⟩ = some (.slice (some adS) n c) := (blk_cell hg 0).trans rfl
  have q2 : W.drew.cell? ⟨g, 2, none⟩ = some (.slice (some ⟨bx, 0, none⟩) nx cx) := (blk_cell hg 2).trans rfl
  have z2 : W.cell? ⟨g, 2, none⟩ = some (.slice (some ⟨bx, 0, none⟩) nx cx) := (blk_cell hg 2).trans rfl
  have Q0 := Aside0.mk (show W.cell? ⟨g, 0, none⟩ = some (.slice (some adS) n c) from (blk_cell hg 0).trans rfl)
  have Q2 := Aside0.mk z2
  have QX := Aside0.mk (show W.cell? ⟨bx, m, none⟩ = some (.int .i64 t) from qx)
  have QS := Aside0.mk hs0
  have hml := hmx
  clear hA hB hT hX hCX hC hb0 hx0 hs0 hrd hlen hg
  have e1 : ((nx : Int) == 0) = false := beq_eq_false_iff_ne.2 (by omega)
  have e2 : wrap64 ((nx : Int) - 1) = (m : Int) := by unfold wrap64; omega
  have e2' : IntKind.i64.wrap ((nx : Int) - 1) = (m : Int) := by rw [i64_w]; exact e2
  have e3 : (0 : Int) ≤ (m : Int) := by omega
  have e4 : (m : Int) < (nx : Int) := by omega
  clear hmx hml
  go_enter Try.func19, Try.ntmps19
  go_wp2_with fail
  refine start_ (n := 24) (S := (fun w' => w'.cell? ⟨g, 0, none⟩ = some (.slice (some adS) n c) ∧ w'.cell? ⟨g, 2, none⟩ = some (.slice (some ⟨bx, 0, none⟩) nx cx) ∧ w'.cell? ⟨bx, m, none⟩ = some (.int .i64 t) ∧ w'.cell? (adS.add t.toNat) = some (.string y))) (ds := []) #[false, false, false, false, false, false, false, false, false, false, false, false, false, false, false, false, false, false, false, false, false, false, false, false] (by kernel_rfl) rfl rfl ⟨q0, q2, qx, qs⟩ (fun hHeld => ?_)
  refine with_tabW strg_tab3 strg_bits3 (fun HT_ HW_ => ?_)
  refine take_ (i := 0) (N := some 16) (v := ?_) (a' := ?_) #[true, false, false, false, false, false, false, false, false, false, false, false, false, false, false, false, false, false, false, false, false, false, false, false] rfl rfl (take_ofW HT_.out HW_.out (by kernel_rfl)) (fun _ _ _ h => h) (Or.inl ⟨by rfl, ?_⟩) hHeld ?_ ?_
  rotate_left
  · rintro w' ⟨s0, s1, s2, s3⟩
    go_simp
    first | done | with_reducible rfl
  rotate_left
  · simp only [Act.put, List.setIfInBounds_toArray, List.set_cons_zero, List.set_cons_succ, i64_w, i32_w]
    rfl
  refine take_ (i := 1) (N := some 17) (v := ?_) (a' := ?_) #[true, true, false, false, false, false, false, false, false, false, false, false, false, false, false, false, false, false, false, false, false, false, false, false] rfl rfl (take_ofW HT_.out HW_.out (by kernel_rfl)) (fun _ _ _ h => h) (Or.inl ⟨by rfl, ?_⟩) hHeld ?_ ?_
  rotate_left
  · rintro w' ⟨s0, s1, s2, s3⟩
    go_simp
    first | done | with_reducible rfl
  rotate_left
  · simp only [Act.put, List.setIfInBounds_toArray, List.set_cons_zero, List.set_cons_succ, i64_w, i32_w]
    rfl
  refine take_ (i := 2) (N := some 18) (v := ?_) (a' := ?_) #[true, true, true, false, false, false, false, false, false, false, false, false, false, false, false, false, false, false, false, false, false, false, false, false] rfl rfl (take_ofW HT_.out HW_.out (by kernel_rfl)) (fun _ _ _ h => h) (Or.inl ⟨by rfl, ?_⟩) hHeld ?_ ?_
  rotate_left
  · rintro w' ⟨s0, s1, s2, s3⟩
    go_simp
    first | done | with_reducible rfl
  rotate_left
  · simp only [Act.put, List.setIfInBounds_toArray, List.set_cons_zero, List.set_cons_succ, i64_w, i32_w]
    rfl
  refine take_ (i := 3) (N := some 19) (v := ?_) (a' := ?_) #[true, true, true, true, false, false, false, false, false, false, false, false, false, false, false, false, false, false, false, false, false, false, false, false] rfl rfl (take_ofW HT_.out HW_.out (by kernel_rfl)) (fun _ _ _ h => h) (Or.inl ⟨by rfl, ?_⟩) hHeld ?_ ?_
  rotate_left
  · rintro w' ⟨s0, s1, s2, s3⟩
    go_simp
    first | done | with_reducible rfl
  rotate_left
  · simp only [Act.put, List.setIfInBounds_toArray, List.set_cons_zero, List.set_cons_succ, i64_w, i32_w]
    rfl
  refine take_ (i := 4) (N := some 20) (v := ?_) (a' := ?_) #[true, true, true, true, true, false, false, false, false, false, false, false, false, false, false, false, false, false, false, false, false, false, false, false] rfl rfl (take_ofW HT_.out HW_.out (by kernel_rfl)) (fun _ _ _ h => h) (Or.inl ⟨by rfl, ?_⟩) hHeld ?_ ?_
  rotate_left
  · rintro w' ⟨s0, s1, s2, s3⟩
    go_simp
    first | done | with_reducible rfl
  rotate_left
  · simp only [Act.put, List.setIfInBounds_toArray, List.set_cons_zero, List.set_cons_succ, i64_w, i32_w]
    rfl
  refine take_ (i := 5) (N := some 21) (v := ?_) (a' := ?_) #[true, true, true, true, true, true, false, false, false, false, false, false, false, false, false, false, false, false, false, false, false, false, false, false] rfl rfl (take_ofW HT_.out HW_.out (by kernel_rfl)) (fun _ _ _ h => h) (Or.inl ⟨by rfl, ?_⟩) hHeld ?_ ?_
  rotate_left
  · rintro w' ⟨s0, s1, s2, s3⟩
    go_simp
    first | done | with_reducible rfl
  rotate_left
  · simp only [Act.put, List.setIfInBounds_toArray, List.set_cons_zero, List.set_cons_succ, i64_w, i32_w]
    rfl
  refine take_ (i := 6) (N := some 22) (v := ?_) (a' := ?_) #[true, true, true, true, true, true, true, false, false, false, false, false, false, false, false, false, false, false, false, false, false, false, false, false] rfl rfl (take_ofW HT_.out HW_.out (by kernel_rfl)) (fun _ _ _ h => h) (Or.inl ⟨by rfl, ?_⟩) hHeld ?_ ?_
  rotate_left
  · rintro w' ⟨s0, s1, s2, s3⟩
    go_simp
    first | done | with_reducible rfl
  rotate_left
  · simp only [Act.put, List.setIfInBounds_toArray, List.set_cons_zero, List.set_cons_succ, i64_w, i32_w]
    rfl
  refine take_ (i := 7) (N := some 23) (v := ?_) (a' := ?_) #[true, true, true, true, true, true, true, true, false, false, false, false, false, false, false, false, false, false, false, false, false, false, false, false] rfl rfl (take_ofW HT_.out HW_.out (by kernel_rfl)) (fun _ _ _ h => h) (Or.inl ⟨by rfl, ?_⟩) hHeld ?_ ?_
  rotate_left
  · rintro w' ⟨s0, s1, s2, s3⟩
    go_simp
    first | done | with_reducible rfl
  rotate_left
  · simp only [Act.put, List.setIfInBounds_toArray, List.set_cons_zero, List.set_cons_succ, i64_w, i32_w]
    rfl
  refine take_ (i := 8) (N := some 24) (v := ?_) (a' := ?_) #[true, true, true, true, true, true, true, true, true, false, false, false, false, false, false, false, false, false, false, false, false, false, false, false] rfl rfl (take_ofW HT_.out HW_.out (by kernel_rfl)) (fun _ _ _ h => h) (Or.inl ⟨by rfl, ?_⟩) hHeld ?_ ?_
  rotate_left
  · rintro w' ⟨s0, s1, s2, s3⟩
    go_simp
    first | done | with_reducible rfl
  rotate_left
  · simp only [Act.put, List.setIfInBounds_toArray, List.set_cons_zero, List.set_cons_succ, i64_w, i32_w]
    rfl
  refine take_ (i := 9) (N := some 25) (v := ?_) (a' := ?_) #[true, true, true, true, true, true, true, true, true, true, false, false, false, false, false, false, false, false, false, false, false, false, false, false] rfl rfl (take_ofW HT_.out HW_.out (by kernel_rfl)) (fun _ _ _ h => h) (Or.inl ⟨by rfl, ?_⟩) hHeld ?_ ?_
  rotate_left
  · rintro w' ⟨s0, s1, s2, s3⟩
    go_simp
    first | done | with_reducible rfl
  rotate_left
  · simp only [Act.put, List.setIfInBounds_toArray, List.set_cons_zero, List.set_cons_succ, i64_w, i32_w]
    rfl
  refine take_ (i := 10) (N := some 26) (v := ?_) (a' := ?_) #[true, true, true, true, true, true, true, true, true, true, true, false, false, false, false, false, false, false, false, false, false, false, false, false] rfl rfl (take_ofW HT_.out HW_.out (by kernel_rfl)) (fun _ _ _ h => h) (Or.inl ⟨by rfl, ?_⟩) hHeld ?_ ?_
  rotate_left
  · rintro w' ⟨s0, s1, s2, s3⟩
    go_simp
    first | done | with_reducible rfl
  rotate_left
  · simp only [Act.put, List.setIfInBounds_toArray, List.set_cons_zero, List.set_cons_succ, i64_w, i32_w]
    rfl
  refine take_ (i := 11) (N := some 27) (v := ?_) (a' := ?_) #[true, true, true, true, true, true, true, true, true, true, true, true, false, false, false, false, false, false, false, false, false, false, false, false] rfl rfl (take_ofW HT_.out HW_.out (by kernel_rfl)) (fun _ _ _ h => h) (Or.inl ⟨by rfl, ?_⟩) hHeld ?_ ?_
  rotate_left
  · rintro w' ⟨s0, s1, s2, s3⟩
    go_simp
    first | done | with_reducible rfl
  rotate_left
  · simp only [Act.put, List.setIfInBounds_toArray, List.set_cons_zero, List.set_cons_succ, i64_w, i32_w]
    rfl
  refine take_ (i := 12) (N := some 28) (v := ?_) (a' := ?_) #[true, true, true, true, true, true, true, true, true, true, true, true, true, false, false, false, false, false, false, false, false, false, false, false] rfl rfl (take_ofW HT_.out HW_.out (by kernel_rfl)) (fun _ _ _ h => h) (Or.inl ⟨by rfl, ?_⟩) hHeld ?_ ?_
  rotate_left
  · rintro w' ⟨s0, s1, s2, s3⟩
    go_simp
    first | done | with_reducible rfl
  rotate_left
  · simp only [Act.put, List.setIfInBounds_toArray, List.set_cons_zero, List.set_cons_succ, i64_w, i32_w]
    rfl
  refine take_ (i := 13) (N := some 29) (v := ?_) (a' := ?_) #[true, true, true, true, true, true, true, true, true, true, true, true, true, true, false, false, false, false, false, false, false, false, false, false] rfl rfl (take_ofW HT_.out HW_.out (by kernel_rfl)) (fun _ _ _ h => h) (Or.inl ⟨by rfl, ?_⟩) hHeld ?_ ?_
  rotate_left
  · rintro w' ⟨s0, s1, s2, s3⟩
    go_simp
    first | done | with_reducible rfl
  rotate_left
  · simp only [Act.put, List.setIfInBounds_toArray, List.set_cons_zero, List.set_cons_succ, i64_w, i32_w]
    rfl
  refine take_ (i := 14) (N := some 30) (v := ?_) (a' := ?_) #[true, true, true, true, true, true, true, true, true, true, true, true, true, true, true, false, false, false, false, false, false, false, false, false] rfl rfl (take_ofW HT_.out HW_.out (by kernel_rfl)) (fun _ _ _ h => h) (Or.inl ⟨by rfl, ?_⟩) hHeld ?_ ?_
  rotate_left
  · rintro w' ⟨s0, s1, s2, s3⟩
    go_simp
    first | done | with_reducible rfl
  rotate_left
  · simp only [Act.put, List.setIfInBounds_toArray, List.set_cons_zero, List.set_cons_succ, i64_w, i32_w]
    rfl
  refine take_ (i := 15) (N := some 31) (v := ?_) (a' := ?_) #[true, true, true, true, true, true, true, true, true, true, true, true, true, true, true, true, false, false, false, false, false, false, false, false] rfl rfl (take_ofW HT_.out HW_.out (by kernel_rfl)) (fun _ _ _ h => h) (Or.inl ⟨by rfl, ?_⟩) hHeld ?_ ?_
  rotate_left
  · rintro w' ⟨s0, s1, s2, s3⟩
    go_simp
    first | done | with_reducible rfl
  rotate_left
  · simp only [Act.put, List.setIfInBounds_toArray, List.set_cons_zero, List.set_cons_succ, i64_w, i32_w]
    rfl
  refine take_ (i := 16) (N := some 32) (v := ?_) (a' := ?_) #[true, true, true, true, true, true, true, true, true, true, true, true, true, true, true, true, true, false, false, false, false, false, false, false] rfl rfl (take_ofW HT_.out HW_.out (by kernel_rfl)) (fun _ _ _ h => h) (Or.inl ⟨by rfl, ?_⟩) hHeld ?_ ?_
  rotate_left
  · rintro w' ⟨s0, s1, s2, s3⟩
    go_simp
    first | done | with_reducible rfl
  rotate_left
  · simp only [Act.put, List.setIfInBounds_toArray, List.set_cons_zero, List.set_cons_succ, i64_w, i32_w]
    rfl
  refine take_ (i := 17) (N := some 33) (v := ?_) (a' := ?_) #[true, true, true, true, true, true, true, true, true, true, true, true, true, true, true, true, true, true, false, false, false, false, false, false] rfl rfl (take_ofW HT_.out HW_.out (by kernel_rfl)) (fun _ _ _ h => h) (Or.inl ⟨by rfl, ?_⟩) hHeld ?_ ?_
  rotate_left
  · rintro w' ⟨s0, s1, s2, s3⟩
    go_simp
    first | done | with_reducible rfl
  rotate_left
  · simp only [Act.put, List.setIfInBounds_toArray, List.set_cons_zero, List.set_cons_succ, i64_w, i32_w]
    rfl
  refine one_ (i := 18) (N := some 34) #[true, true, true, true, true, true, true, true, true, true, true, true, true, true, true, true, true, true, true, false, false, false, false, false] rfl rfl (one_of HT_.out (by kernel_rfl)) (by decide) (fun K hK => ?_)
  refine goes_ Try.func18 (by kernel_rfl) rfl #[.string y] (by rfl) rfl rfl (by (try simp only [List.map_toArray, List.map_cons, List.map_nil]); first | done | rfl) ?_
  refine (HLA.out _).mono ?_
  rintro e w2 ⟨rfl, hb⟩
  refine ⟨_, rfl, ?_⟩
  have HBW := Aside0.mk (below_step (below_drew (Below.refl W.heap.size W)) hb)
  clear hb
  refine hK.out _ _ ⟨pw_cell_below HBW.out Q0.out, pw_cell_below HBW.out Q2.out, pw_cell_below HBW.out QX.out, pw_cell_below HBW.out QS.out⟩ (fun hHeld => ?_)
  clear hK K
  refine norm_ (a' := ?_) ?_ ?_
  rotate_left
  · show Act.put _ (some 34) _ = _
    simp only [Act.put, List.setIfInBounds_toArray, List.set_cons_zero, List.set_cons_succ, i64_w, i32_w]
    rfl
  refine take_ (i := 19) (N := some 15) (v := ?_) (a' := ?_) #[true, true, true, true, true, true, true, true, true, true, true, true, true, true, true, true, true, true, true, true, false, false, false, false] rfl rfl (take_ofW HT_.out HW_.out (by kernel_rfl)) (fun _ _ _ h => h) (Or.inl ⟨by rfl, ?_⟩) hHeld ?_ ?_
  rotate_left
  · rintro w' ⟨s0, s1, s2, s3⟩
    go_simp
    first | done | with_reducible rfl
  rotate_left
  · simp only [Act.put, List.setIfInBounds_toArray, List.set_cons_zero, List.set_cons_succ, i64_w, i32_w]
    rfl
  refine take_ (i := 20) (N := some 35) (v := ?_) (a' := ?_) #[true, true, true, true, true, true, true, true, true, true, true, true, true, true, true, true, true, true, true, true, true, false, false, false] rfl rfl (take_ofW HT_.out HW_.out (by kernel_rfl)) (fun _ _ _ h => h) (Or.inl ⟨by rfl, ?_⟩) hHeld ?_ ?_
  rotate_left
  · rintro w' ⟨s0, s1, s2, s3⟩
    go_simp
    first | done | with_reducible rfl
  rotate_left
  · simp only [Act.put, List.setIfInBounds_toArray, List.set_cons_zero, List.set_cons_succ, i64_w, i32_w]
    rfl
  refine take_ (i := 21) (N := some 36) (v := ?_) (a' := ?_) #[true, true, true, true, true, true, true, true, true, true, true, true, true, true, true, true, true, true, true, true, true, true, false, false] rfl rfl (take_ofW HT_.out HW_.out (by kernel_rfl)) (fun _ _ _ h => h) (Or.inl ⟨by rfl, ?_⟩) hHeld ?_ ?_
  rotate_left
  · rintro w' ⟨s0, s1, s2, s3⟩
    go_simp
    first | done | with_reducible rfl
  rotate_left
  · simp only [Act.put, List.setIfInBounds_toArray, List.set_cons_zero, List.set_cons_succ, i64_w, i32_w]
    rfl
  refine take_ (i := 22) (N := some 5) (v := ?_) (a' := ?_) #[true, true, true, true, true, true, true, true, true, true, true, true, true, true, true, true, true, true, true, true, true, true, true, false] rfl rfl (take_ofW HT_.out HW_.out (by kernel_rfl)) (fun _ _ _ h => h) (Or.inl ⟨by rfl, ?_⟩) hHeld ?_ ?_
  rotate_left
  · rintro w' ⟨s0, s1, s2, s3⟩
    go_simp
    first | done | with_reducible rfl
  rotate_left
  · simp only [Act.put, List.setIfInBounds_toArray, List.set_cons_zero, List.set_cons_succ, i64_w, i32_w]
    rfl
  refine take_ (i := 23) (N := some 6) (v := ?_) (a' := ?_) #[true, true, true, true, true, true, true, true, true, true, true, true, true, true, true, true, true, true, true, true, true, true, true, true] rfl rfl (take_ofW HT_.out HW_.out (by kernel_rfl)) (fun _ _ _ h => h) (Or.inl ⟨by rfl, ?_⟩) hHeld ?_ ?_
  rotate_left
  · rintro w' ⟨s0, s1, s2, s3⟩
    go_simp
    first | done | with_reducible rfl
  rotate_left
  · simp only [Act.put, List.setIfInBounds_toArray, List.set_cons_zero, List.set_cons_succ, i64_w, i32_w]
    rfl
  refine done_ (done_of HT_.out (by kernel_rfl)) ?_
  have HX := Aside0.mk (HLB.out w2)
  go_wp2_with fail
  refine HX.out.mono ?_
  rintro e w3 ⟨rfl, hb⟩
  have HB3 := Aside0.mk (below_step HBW.out hb)
  clear hb HX
  by_cases c1 : lb < la
  · have c1d : decide (lb < la) = true := decide_eq_true c1
    go_wp2_with fail
    go_ret
    exact ⟨by simp [c1], HB3.out⟩
  · have c1d : decide (lb < la) = false := decide_eq_false c1
    by_cases c2 : la = lb
    · subst c2
      have c2d : (la == la) = true := beq_self_eq_true la
      go_wp2_with fail
      go_ret
      exact ⟨by simp, HB3.out⟩
    · have c2d : (la == lb) = false := beq_eq_false_iff_ne.2 c2
      go_wp2_with fail
      go_ret
      exact ⟨by simp [c1, c2], HB3.out⟩

def appl_T2 : Bool × List (List Nat × List Nat) := (true, [([], []), ([], []), ([1], [1]), ([2], [2]), ([3], [3]), ([], []), ([5], [5]), ([6], [6]), ([7], [7]), ([8], [8]), ([9], [9]), ([4, 10], [4, 10]), ([0, 0, 1, 2, 3, 4, 5, 6, 7, 8, 9, 10, 11], [0]), ([12, 0, 1, 2, 3, 4, 5, 6, 7, 8, 9, 10, 11], [12]), ([13, 11, 0, 1, 2, 3, 4, 5, 6, 7, 8, 9, 10, 11], [11, 13])])
def appl_B2 : List Nat := [0, 0, 2, 6, 14, 0, 32, 96, 224, 480, 992, 2046, 4095, 8191, 16383]
theorem appl_tab2 : rtab .any (opsOf Try.f20 2) = appl_T2 := by kernel_rfl
theorem appl_bits2 : waitsOk appl_T2.2 appl_B2 = true := by kernel_rfl

def appl_T3 : Bool × List (List Nat × List Nat) := (true, [([], []), ([], []), ([1], [1]), ([2], [2]), ([3], [3]), ([], []), ([5], [5]), ([4, 6], [4, 6]), ([7], [7]), ([], []), ([9], [9]), ([10], [10]), ([11], [11]), ([], []), ([13], [13]), ([12, 14], [12, 14]), ([15], [15]), ([8, 16], [8, 16]), ([0, 17], [0, 17]), ([], []), ([19, 18, 0, 1, 2, 3, 4, 5, 6, 7, 8, 9, 10, 11, 12, 13, 14, 15, 16, 17, 18, 19], [18, 19])])
def appl_B3 : List Nat := [0, 0, 2, 6, 14, 0, 32, 126, 254, 0, 512, 1536, 3584, 0, 8192, 32256, 65024, 131070, 262143, 0, 1048575]
theorem appl_tab3 : rtab .any (opsOf Try.f20 3) = appl_T3 := by kernel_rfl
theorem appl_bits3 : waitsOk appl_T3.2 appl_B3 = true := by kernel_rfl

def appl_T4 : Bool × List (List Nat × List Nat) := (true, [([], []), ([], []), ([1], [1]), ([2], [2]), ([3], [3]), ([], []), ([5], [5]), ([], []), ([7], [7]), ([4, 6, 8], [4, 6, 8]), ([], []), ([10], [10]), ([9, 11], [9, 11]), ([0, 0, 1, 2, 3, 4, 5, 6, 7, 8, 9, 10, 11, 12], [0]), ([13, 0, 1, 2, 3, 4, 5, 6, 7, 8, 9, 10, 11, 12], [13]), ([14, 12, 12, 0, 1, 2, 3, 4, 5, 6, 7, 8, 9, 10, 11, 12], [12, 14])])
def appl_B4 : List Nat := [0, 0, 2, 6, 14, 0, 32, 0, 128, 510, 0, 1024, 4094, 8191, 16383, 32767]
theorem appl_tab4 : rtab .any (opsOf Try.f20 4) = appl_T4 := by kernel_rfl
theorem appl_bits4 : waitsOk appl_T4.2 appl_B4 = true := by kernel_rfl

theorem tm_info : ∃ i, Try.prog.info? 27 = some i ∧ i.zero = some (.agg #[.int .i64 0, .int .i64 0, .slice none 0 0]) ∧ i.size = 3 ∧ i.bytes = 40 := ⟨_, rfl, rfl, rfl, rfl⟩
theorem own_cells {W : World} {base n size : Nat} {e : TypeId} {g cap : Nat} {xs : List Value} (h : W.ownsRow base e size (.slice (some ⟨g, 0, none⟩) n cap) n xs) : ∀ j u, xs[j]? = some u → W.cell? ⟨g, j, none⟩ = some u := by
  obtain ⟨_, h⟩ := h
  rcases h with ⟨hv, _⟩ | ⟨g', cap', cur, hv, hb, hh, h1, h2, h3, h4⟩
  · cases hv
  · injection hv with ha _ hc
    injection ha with ha
    injection ha with ha _ _
    subst ha
    intro j u hj
    rw [← h4, List.getElem?_take] at hj
    split at hj
    · rw [blk_cell hh j]
      simpa using hj
    · cases hj
/-- Two terms, in a row of their own. -/
theorem kids_lit {W : World} {base : Nat} {ok : Nat → Prop} {a b : S27} {ca cb : List Value} (ha : k27.M W base ok a ca) (hb : k27.M W base ok b cb) (hbase : base ≤ W.heap.size) (hfresh : ok W.heap.size) :
    k27.R 27 (W.alloc (.cells (ca ++ cb).toArray 27)) base ok (.slice (some ⟨W.heap.size, 0, none⟩) 2 2) [a, b] := by
  have hrep : Reps (k27.M W base ok) 3 [a, b] (ca ++ cb) := ((Reps.none _ 3).snoc ha (k27.K_len (k27.K_of_M ha))).snoc hb (k27.K_len (k27.K_of_M hb))
  refine ⟨fun k hk => ?_, ca ++ cb, ?_, ?_⟩
  · have : W.heap.size = k := by simpa [Value.ownBlock] using hk
    subst this
    exact hfresh
  · have h2 := World.ownsRow_lit (base := base) (e := 27) (size := 3) W (ca ++ cb).toArray 2 hbase (by simp [maxLen]) (by simpa using hrep.1)
    have h3 : (W.alloc (.cells (ca ++ cb).toArray 27)).ownsRow base 27 3 (.slice (some ⟨W.heap.size, 0, none⟩) 2 2) 2 (ca ++ cb) := by simpa using h2
    exact h3
  · refine hrep.imp_ (fun p c hp => k27.M_mono (fun k hk => ⟨hk.1, fun he => ?_⟩) (Kd.M_below (k27.M_bound hp) (below_alloc (Below.refl _ _) _)))
    have h3 : k = W.heap.size := by simpa [Value.ownBlock] using he
    have := hk.2.2.1
    omega
/-- An element, opened: its cells; what it leads to. -/
theorem term_at {W : World} {base : Nat} {ok : Nat → Prop} {bt nt ct : Nat} {xs : List S27} (h : k27.R 27 W base ok (.slice (some ⟨bt, 0, none⟩) nt ct) xs) (i : Nat) (hi : i < nt) (a : S27) (ha : xs[i]? = some a) :
    ∃ Aa ca, (W.cell? ⟨bt, i * 3, none⟩ = some (.int .i64 a.f0) ∧ W.cell? ⟨bt, i * 3 + 1, none⟩ = some (.int .i64 a.f1) ∧ W.cell? ⟨bt, i * 3 + 2, none⟩ = some (.slice Aa a.f2.length ca)) ∧ k27.M W base (fun k => ok k ∧ k ≠ bt) a [.int .i64 a.f0, .int .i64 a.f1, .slice Aa a.f2.length ca] := by
  obtain ⟨c, hcl, hM, hc⟩ := Kd.R_get h z27 (i : Int) (by omega) (by omega)
  rw [Int.toNat_natCast] at hM hc
  have hx : xs.getD i z27 = a := by rw [List.getD_eq_getElem?_getD, ha]; rfl
  rw [hx] at hM
  have hM2 := k27.M_mono (ok' := fun k => ok k ∧ k ≠ bt) (fun k hk => ⟨hk.1, fun e => hk.2 (by rw [e]; simp [Value.ownBlock])⟩) hM
  obtain ⟨v2, rfl, hv2⟩ := k27_openM hM2
  obtain ⟨Aa, ca, rfl⟩ := Kd.R_slice hv2
  refine ⟨Aa, ca, ⟨?_, ?_, ?_⟩, hM2⟩
  · have := hc 0 _ rfl
    rw [Addr.add_lit, Nat.zero_add] at this
    exact this
  · have := hc 1 _ rfl
    rw [Addr.add_lit, Nat.zero_add] at this
    exact this
  · have := hc 2 _ rfl
    rw [Addr.add_lit, Nat.zero_add] at this
    exact this

set_option maxHeartbeats 4000000 in
set_option maxRecDepth 100000 in
theorem stack_apply {w0 W : World} {g : Nat} {A : Option Addr} {c n : Nat} {ts : List S27} {a b : S27} {xs : List Int} {t : Int} (hI : IsSt w0 W g A c n (ts ++ [a, b]) (xs ++ [t])) (hsz : ts.length ≤ 1000000) :
    Calls Try.prog 20 #[.pointer (some ⟨g, 0, none⟩)] W fun e w' => e = .returned (.tuple #[]) ∧ IsSt w0 w' g A c n (ts ++ [⟨t, -1, [a, b]⟩]) xs := by
  have hu38 := Try.underlying38
  have hu25 := Try.underlying25
  have hu27 := Try.underlying27
  have hu46 := Try.underlying46
  obtain ⟨vT, vX, hg, hg0, hT, hX, hb0⟩ := hI
  obtain ⟨m, hm⟩ : ∃ m, xs.length = m := ⟨_, rfl⟩
  have hlen : (xs ++ [t]).length = m + 1 := by rw [List.length_append, hm]; rfl
  obtain ⟨bx, cx, hv, hbx, hbxl, -⟩ := Kd.R_form hX (by rw [hlen]; omega)
  obtain ⟨nx, hnx⟩ : ∃ nx, m + 1 = nx := ⟨_, rfl⟩
  rw [hnx] at hlen
  rw [hlen] at hv
  subst hv
  obtain ⟨-, hcx, hCX⟩ := Kd.R_reads' hX
  have hmx := Kd.C_max hCX
  rw [hlen] at hmx
  obtain ⟨ad, ead, hx0⟩ := Kd.at_int hCX (m : Int) (by omega) (by omega)
  cases ead
  rw [Int.toNat_natCast] at hx0
  have hrd : rd (xs ++ [t]) (m : Int) = t := by
    show (xs ++ [t]).getD m 0 = t
    rw [List.getD_eq_getElem?_getD, ← hm, List.getElem?_concat_length]
    rfl
  rw [hrd, Addr.add_lit, Nat.zero_add] at hx0
  obtain ⟨p, hp⟩ : ∃ p, ts.length = p := ⟨_, rfl⟩
  have hlt : (ts ++ [a, b]).length = p + 2 := by rw [List.length_append, hp]; rfl
  obtain ⟨bt, ct, hv, hbt, hbtl, -⟩ := Kd.R_form hT (by rw [hlt]; omega)
  obtain ⟨nt, hnt⟩ : ∃ nt, p + 2 = nt := ⟨_, rfl⟩
  obtain ⟨p1, hp1⟩ : ∃ p1, p + 1 = p1 := ⟨_, rfl⟩
  rw [hnt] at hlt
  rw [hlt] at hv
  subst hv
  have hct := (Kd.R_reads' hT).2.1
  rw [hp] at hsz
  have e1 : wrap64 ((nx : Int) - 1) = (m : Int) := by unfold wrap64; omega
  have e1' : IntKind.i64.wrap ((nx : Int) - 1) = (m : Int) := by rw [i64_w]; exact e1
  have e2 : wrap64 ((nt : Int) - 2) = (p : Int) := by unfold wrap64; omega
  have e2' : IntKind.i64.wrap ((nt : Int) - 2) = (p : Int) := by rw [i64_w]; exact e2
  have e3 : wrap64 ((nt : Int) - 1) = (p1 : Int) := by unfold wrap64; omega
  have e3' : IntKind.i64.wrap ((nt : Int) - 1) = (p1 : Int) := by rw [i64_w]; exact e3
  have f1 : (0 : Int) ≤ (m : Int) := by omega
  have f2 : (m : Int) < (nx : Int) := by omega
  have f3 : (m : Int) ≤ (cx : Int) := by omega
  have f4 : (0 : Int) ≤ (p : Int) := by omega
  have f5 : (p : Int) < (nt : Int) := by omega
  have f6 : (p1 : Int) < (nt : Int) := by omega
  have f7 : (0 : Int) ≤ (p1 : Int) := by omega
  have f8 : (p : Int) ≤ (ct : Int) := by omega
  have HG := Aside0.mk hg
  have HT := Aside0.mk hT
  have HX := Aside0.mk hX
  have HB := Aside0.mk hb0
  have q1 : W.cell? ⟨g, 1, none⟩ = some (.slice (some ⟨bt, 0, none⟩) nt ct) := (blk_cell hg 1).trans rfl
  have q2 : W.cell? ⟨g, 2, none⟩ = some (.slice (some ⟨bx, 0, none⟩) nx cx) := (blk_cell hg 2).trans rfl
  have hfz := blk_frozen hg 2
  clear hmx hCX hrd hg hT hX hb0
  go_enter Try.func20, Try.ntmps20
  go_wp2_with fail
  go_quiet (fail)
  go_wp2_with fail
  refine start_ (n := 15) (S := (fun w' => w'.cell? ⟨g, 2, none⟩ = some (.slice (some ⟨bx, 0, none⟩) nx cx))) (ds := [14]) #[false, false, false, false, false, false, false, false, false, false, false, false, false, false, false] (by kernel_rfl) rfl rfl q2 (fun hHeld => ?_)
  refine with_tabW appl_tab2 appl_bits2 (fun HT_ HW_ => ?_)
  refine take_ (i := 0) (N := some 22) (v := ?_) (a' := ?_) #[true, false, false, false, false, false, false, false, false, false, false, false, false, false, false] rfl rfl (take_ofW HT_.out HW_.out (by kernel_rfl)) (fun _ _ _ h => h) (Or.inl ⟨by rfl, ?_⟩) hHeld ?_ ?_
  rotate_left
  · rintro w' s0
    go_simp
    first | done | with_reducible rfl
  rotate_left
  · simp only [Act.put, List.setIfInBounds_toArray, List.set_cons_zero, List.set_cons_succ, i64_w, i32_w]
    rfl
  refine take_ (i := 1) (N := some 23) (v := ?_) (a' := ?_) #[true, true, false, false, false, false, false, false, false, false, false, false, false, false, false] rfl rfl (take_ofW HT_.out HW_.out (by kernel_rfl)) (fun _ _ _ h => h) (Or.inl ⟨by rfl, ?_⟩) hHeld ?_ ?_
  rotate_left
  · rintro w' s0
    go_simp
    first | done | with_reducible rfl
  rotate_left
  · simp only [Act.put, List.setIfInBounds_toArray, List.set_cons_zero, List.set_cons_succ, i64_w, i32_w]
    rfl
  refine take_ (i := 2) (N := some 24) (v := ?_) (a' := ?_) #[true, true, true, false, false, false, false, false, false, false, false, false, false, false, false] rfl rfl (take_ofW HT_.out HW_.out (by kernel_rfl)) (fun _ _ _ h => h) (Or.inl ⟨by rfl, ?_⟩) hHeld ?_ ?_
  rotate_left
  · rintro w' s0
    go_simp
    first | done | with_reducible rfl
  rotate_left
  · simp only [Act.put, List.setIfInBounds_toArray, List.set_cons_zero, List.set_cons_succ, i64_w, i32_w]
    rfl
  refine take_ (i := 3) (N := some 25) (v := ?_) (a' := ?_) #[true, true, true, true, false, false, false, false, false, false, false, false, false, false, false] rfl rfl (take_ofW HT_.out HW_.out (by kernel_rfl)) (fun _ _ _ h => h) (Or.inl ⟨by rfl, ?_⟩) hHeld ?_ ?_
  rotate_left
  · rintro w' s0
    go_simp
    first | done | with_reducible rfl
  rotate_left
  · simp only [Act.put, List.setIfInBounds_toArray, List.set_cons_zero, List.set_cons_succ, i64_w, i32_w]
    rfl
  refine take_ (i := 4) (N := some 26) (v := ?_) (a' := ?_) #[true, true, true, true, true, false, false, false, false, false, false, false, false, false, false] rfl rfl (take_ofW HT_.out HW_.out (by kernel_rfl)) (fun _ _ _ h => h) (Or.inl ⟨by rfl, ?_⟩) hHeld ?_ ?_
  rotate_left
  · rintro w' s0
    go_simp
    first | done | with_reducible rfl
  rotate_left
  · simp only [Act.put, List.setIfInBounds_toArray, List.set_cons_zero, List.set_cons_succ, i64_w, i32_w]
    rfl
  refine take_ (i := 5) (N := some 27) (v := ?_) (a' := ?_) #[true, true, true, true, true, true, false, false, false, false, false, false, false, false, false] rfl rfl (take_ofW HT_.out HW_.out (by kernel_rfl)) (fun _ _ _ h => h) (Or.inl ⟨by rfl, ?_⟩) hHeld ?_ ?_
  rotate_left
  · rintro w' s0
    go_simp
    first | done | with_reducible rfl
  rotate_left
  · simp only [Act.put, List.setIfInBounds_toArray, List.set_cons_zero, List.set_cons_succ, i64_w, i32_w]
    rfl
  refine take_ (i := 6) (N := some 28) (v := ?_) (a' := ?_) #[true, true, true, true, true, true, true, false, false, false, false, false, false, false, false] rfl rfl (take_ofW HT_.out HW_.out (by kernel_rfl)) (fun _ _ _ h => h) (Or.inl ⟨by rfl, ?_⟩) hHeld ?_ ?_
  rotate_left
  · rintro w' s0
    go_simp
    first | done | with_reducible rfl
  rotate_left
  · simp only [Act.put, List.setIfInBounds_toArray, List.set_cons_zero, List.set_cons_succ, i64_w, i32_w]
    rfl
  refine take_ (i := 7) (N := some 29) (v := ?_) (a' := ?_) #[true, true, true, true, true, true, true, true, false, false, false, false, false, false, false] rfl rfl (take_ofW HT_.out HW_.out (by kernel_rfl)) (fun _ _ _ h => h) (Or.inl ⟨by rfl, ?_⟩) hHeld ?_ ?_
  rotate_left
  · rintro w' s0
    go_simp
    first | done | with_reducible rfl
  rotate_left
  · simp only [Act.put, List.setIfInBounds_toArray, List.set_cons_zero, List.set_cons_succ, i64_w, i32_w]
    rfl
  refine take_ (i := 8) (N := some 30) (v := ?_) (a' := ?_) #[true, true, true, true, true, true, true, true, true, false, false, false, false, false, false] rfl rfl (take_ofW HT_.out HW_.out (by kernel_rfl)) (fun _ _ _ h => h) (Or.inl ⟨by rfl, ?_⟩) hHeld ?_ ?_
  rotate_left
  · rintro w' s0
    go_simp
    first | done | with_reducible rfl
  rotate_left
  · simp only [Act.put, List.setIfInBounds_toArray, List.set_cons_zero, List.set_cons_succ, i64_w, i32_w]
    rfl
  refine take_ (i := 9) (N := some 31) (v := ?_) (a' := ?_) #[true, true, true, true, true, true, true, true, true, true, false, false, false, false, false] rfl rfl (take_ofW HT_.out HW_.out (by kernel_rfl)) (fun _ _ _ h => h) (Or.inl ⟨by rfl, ?_⟩) hHeld ?_ ?_
  rotate_left
  · rintro w' s0
    go_simp
    first | done | with_reducible rfl
  rotate_left
  · simp only [Act.put, List.setIfInBounds_toArray, List.set_cons_zero, List.set_cons_succ, i64_w, i32_w]
    rfl
  refine take_ (i := 10) (N := some 32) (v := ?_) (a' := ?_) #[true, true, true, true, true, true, true, true, true, true, true, false, false, false, false] rfl rfl (take_ofW HT_.out HW_.out (by kernel_rfl)) (fun _ _ _ h => h) (Or.inl ⟨by rfl, ?_⟩) hHeld ?_ ?_
  rotate_left
  · rintro w' s0
    go_simp
    first | done | with_reducible rfl
  rotate_left
  · simp only [Act.put, List.setIfInBounds_toArray, List.set_cons_zero, List.set_cons_succ, i64_w, i32_w]
    rfl
  refine take_ (i := 11) (N := some 33) (v := ?_) (a' := ?_) #[true, true, true, true, true, true, true, true, true, true, true, true, false, false, false] rfl rfl (take_ofW HT_.out HW_.out (by kernel_rfl)) (fun _ _ _ h => h) (Or.inl ⟨by rfl, ?_⟩) hHeld ?_ ?_
  rotate_left
  · rintro w' s0
    go_simp
    first | done | with_reducible rfl
  rotate_left
  · simp only [Act.put, List.setIfInBounds_toArray, List.set_cons_zero, List.set_cons_succ, i64_w, i32_w]
    rfl
  refine take_ (i := 12) (N := some 34) (v := ?_) (a' := ?_) #[true, true, true, true, true, true, true, true, true, true, true, true, true, false, false] rfl rfl (take_ofW HT_.out HW_.out (by kernel_rfl)) (fun _ _ _ h => h) (Or.inl ⟨by rfl, ?_⟩) hHeld ?_ ?_
  rotate_left
  · rintro w' s0
    go_simp
    first | done | with_reducible rfl
  rotate_left
  · simp only [Act.put, List.setIfInBounds_toArray, List.set_cons_zero, List.set_cons_succ, i64_w, i32_w]
    rfl
  refine take_ (i := 13) (N := some 35) (v := ?_) (a' := ?_) #[true, true, true, true, true, true, true, true, true, true, true, true, true, true, false] rfl rfl (take_ofW HT_.out HW_.out (by kernel_rfl)) (fun _ _ _ h => h) (Or.inl ⟨by rfl, ?_⟩) hHeld ?_ ?_
  rotate_left
  · rintro w' s0
    go_simp
    first | done | with_reducible rfl
  rotate_left
  · simp only [Act.put, List.setIfInBounds_toArray, List.set_cons_zero, List.set_cons_succ, i64_w, i32_w]
    rfl
  refine last_ (i := 14) (N := none) #[true, true, true, true, true, true, true, true, true, true, true, true, true, true, true] rfl rfl (one_of HT_.out (by kernel_rfl)) (by decide) (fun K hK => ?_)
  refine skip_ (w1 := ?_) (by rfl) rfl ?_ ?_
  rotate_left
  · go_simp
    rfl
  refine hK.out _ _ ?_
  clear hK K
  refine done_ (done_of HT_.out (by kernel_rfl)) ?_
  have HXm : Kd.R (Kd.int .i64) 3 W w0.heap.size (fun k => k ≠ g) (.slice (some ⟨bx, 0, none⟩) m cx) xs := by
    have h := Kd.R_take (m := m) HX.out (by rw [hlen]; omega)
    rw [List.take_left' hm] at h
    exact h
  have HG1 := Aside0.mk (show ((W.drewN (nq + 1)).setCell ⟨g, 2, none⟩ (.slice (some ⟨bx, 0, none⟩) m cx)).heap[g]? = some (.cells #[.slice A n c, .slice (some ⟨bt, 0, none⟩) nt ct, .slice (some ⟨bx, 0, none⟩) m cx] 46 (0, 0)) from blk_put (blk_drewN HG.out _) 2 _ rfl)
  have HT1 := Aside0.mk (Kd.R_far (p := ⟨g, 2, none⟩) (Kd.R_drewN (Kd.R_mono (ok' := fun k => k ≠ g ∧ k ≠ bx) HT.out (fun k hk => ⟨hk.1, fun e => hk.2 (by rw [e]; simp [Value.ownBlock])⟩)) (nq + 1)) (fun k hk => hk.1) (.slice (some ⟨bx, 0, none⟩) m cx))
  have HX1 := Aside0.mk (Kd.R_far (p := ⟨g, 2, none⟩) (Kd.R_drewN HXm (nq + 1)) (fun k hk => hk) (.slice (some ⟨bx, 0, none⟩) m cx))
  have HB1 := Aside0.mk (below_set (j := 2) (v := .slice (some ⟨bx, 0, none⟩) m cx) (pw_below_drewN HB.out (nq + 1)) hg0)
  have HBL := Aside0.mk (show bx < ((W.drewN (nq + 1)).setCell ⟨g, 2, none⟩ (.slice (some ⟨bx, 0, none⟩) m cx)).heap.size ∧ bt < ((W.drewN (nq + 1)).setCell ⟨g, 2, none⟩ (.slice (some ⟨bx, 0, none⟩) m cx)).heap.size from ⟨by simpa using hbxl, by simpa using hbtl⟩)
  clear HXm HG HT HX HB q1 q2 hfz hx0 hbxl hbtl
  generalize ((W.drewN (nq + 1)).setCell ⟨g, 2, none⟩ (.slice (some ⟨bx, 0, none⟩) m cx)) = W1 at *
  have hia : (ts ++ [a, b])[p]? = some a := by rw [List.getElem?_append_right (by omega), hp, Nat.sub_self]; rfl
  have hib : (ts ++ [a, b])[p1]? = some b := by rw [List.getElem?_append_right (by omega), hp, show p1 - p = 1 by omega]; rfl
  obtain ⟨Aa, ca, ⟨a0, a1, a2⟩, HMa⟩ := term_at HT1.out p (by omega) a hia
  obtain ⟨Ab, cb, ⟨b0, b1, b2⟩, HMb⟩ := term_at HT1.out p1 (by omega) b hib
  have q1 : W1.drew.cell? ⟨g, 1, none⟩ = some (.slice (some ⟨bt, 0, none⟩) nt ct) := (blk_cell HG1.out 1).trans rfl
  have A0 := Aside0.mk a0
  have A1 := Aside0.mk a1
  have A2 := Aside0.mk a2
  have B0 := Aside0.mk b0
  have B1 := Aside0.mk b1
  have B2 := Aside0.mk b2
  have Q1 := Aside0.mk (show W1.cell? ⟨g, 1, none⟩ = some (.slice (some ⟨bt, 0, none⟩) nt ct) from (blk_cell HG1.out 1).trans rfl)
  have HMA := Aside0.mk HMa
  have HMB := Aside0.mk HMb
  clear HMa HMb hia hib
  go_wp2_with fail
  refine start_ (n := 21) (S := (fun w' => w'.cell? ⟨g, 1, none⟩ = some (.slice (some ⟨bt, 0, none⟩) nt ct) ∧ (w'.cell? ⟨bt, p * 3, none⟩ = some (.int .i64 a.f0) ∧ w'.cell? ⟨bt, p * 3 + 1, none⟩ = some (.int .i64 a.f1) ∧ w'.cell? ⟨bt, p * 3 + 2, none⟩ = some (.slice Aa a.f2.length ca)) ∧ w'.cell? ⟨bt, p1 * 3, none⟩ = some (.int .i64 b.f0) ∧ w'.cell? ⟨bt, p1 * 3 + 1, none⟩ = some (.int .i64 b.f1) ∧ w'.cell? ⟨bt, p1 * 3 + 2, none⟩ = some (.slice Ab b.f2.length cb))) (ds := [20]) #[false, false, false, false, false, false, false, false, false, false, false, false, false, false, false, false, false, false, false, false, false] (by kernel_rfl) rfl rfl ⟨q1, ⟨a0, a1, a2⟩, b0, b1, b2⟩ (fun hHeld => ?_)
  refine with_tabW appl_tab3 appl_bits3 (fun HT_ HW_ => ?_)
  refine take_ (i := 0) (N := some 36) (v := ?_) (a' := ?_) #[true, false, false, false, false, false, false, false, false, false, false, false, false, false, false, false, false, false, false, false, false] rfl rfl (take_ofW HT_.out HW_.out (by kernel_rfl)) (fun _ _ _ h => h) (Or.inl ⟨by rfl, ?_⟩) hHeld ?_ ?_
  rotate_left
  · rintro w' ⟨s0, ⟨s1, s2, s3⟩, s4, s5, s6⟩
    go_simp
    first | done | with_reducible rfl
  rotate_left
  · simp only [Act.put, List.setIfInBounds_toArray, List.set_cons_zero, List.set_cons_succ, i64_w, i32_w]
    rfl
  refine take_ (i := 1) (N := some 37) (v := ?_) (a' := ?_) #[true, true, false, false, false, false, false, false, false, false, false, false, false, false, false, false, false, false, false, false, false] rfl rfl (take_ofW HT_.out HW_.out (by kernel_rfl)) (fun _ _ _ h => h) (Or.inl ⟨by rfl, ?_⟩) hHeld ?_ ?_
  rotate_left
  · rintro w' ⟨s0, ⟨s1, s2, s3⟩, s4, s5, s6⟩
    go_simp
    first | done | with_reducible rfl
  rotate_left
  · simp only [Act.put, List.setIfInBounds_toArray, List.set_cons_zero, List.set_cons_succ, i64_w, i32_w]
    rfl
  refine take_ (i := 2) (N := some 38) (v := ?_) (a' := ?_) #[true, true, true, false, false, false, false, false, false, false, false, false, false, false, false, false, false, false, false, false, false] rfl rfl (take_ofW HT_.out HW_.out (by kernel_rfl)) (fun _ _ _ h => h) (Or.inl ⟨by rfl, ?_⟩) hHeld ?_ ?_
  rotate_left
  · rintro w' ⟨s0, ⟨s1, s2, s3⟩, s4, s5, s6⟩
    go_simp
    first | done | with_reducible rfl
  rotate_left
  · simp only [Act.put, List.setIfInBounds_toArray, List.set_cons_zero, List.set_cons_succ, i64_w, i32_w]
    rfl
  refine take_ (i := 3) (N := some 39) (v := ?_) (a' := ?_) #[true, true, true, true, false, false, false, false, false, false, false, false, false, false, false, false, false, false, false, false, false] rfl rfl (take_ofW HT_.out HW_.out (by kernel_rfl)) (fun _ _ _ h => h) (Or.inl ⟨by rfl, ?_⟩) hHeld ?_ ?_
  rotate_left
  · rintro w' ⟨s0, ⟨s1, s2, s3⟩, s4, s5, s6⟩
    go_simp
    first | done | with_reducible rfl
  rotate_left
  · simp only [Act.put, List.setIfInBounds_toArray, List.set_cons_zero, List.set_cons_succ, i64_w, i32_w]
    rfl
  refine take_ (i := 4) (N := some 40) (v := ?_) (a' := ?_) #[true, true, true, true, true, false, false, false, false, false, false, false, false, false, false, false, false, false, false, false, false] rfl rfl (take_ofW HT_.out HW_.out (by kernel_rfl)) (fun _ _ _ h => h) (Or.inl ⟨by rfl, ?_⟩) hHeld ?_ ?_
  rotate_left
  · rintro w' ⟨s0, ⟨s1, s2, s3⟩, s4, s5, s6⟩
    go_simp
    first | done | with_reducible rfl
  rotate_left
  · simp only [Act.put, List.setIfInBounds_toArray, List.set_cons_zero, List.set_cons_succ, i64_w, i32_w]
    rfl
  refine take_ (i := 5) (N := some 41) (v := ?_) (a' := ?_) #[true, true, true, true, true, true, false, false, false, false, false, false, false, false, false, false, false, false, false, false, false] rfl rfl (take_ofW HT_.out HW_.out (by kernel_rfl)) (fun _ _ _ h => h) (Or.inl ⟨by rfl, ?_⟩) hHeld ?_ ?_
  rotate_left
  · rintro w' ⟨s0, ⟨s1, s2, s3⟩, s4, s5, s6⟩
    go_simp
    first | done | with_reducible rfl
  rotate_left
  · simp only [Act.put, List.setIfInBounds_toArray, List.set_cons_zero, List.set_cons_succ, i64_w, i32_w]
    rfl
  refine take_ (i := 6) (N := some 42) (v := ?_) (a' := ?_) #[true, true, true, true, true, true, true, false, false, false, false, false, false, false, false, false, false, false, false, false, false] rfl rfl (take_ofW HT_.out HW_.out (by kernel_rfl)) (fun _ _ _ h => h) (Or.inl ⟨by rfl, ?_⟩) hHeld ?_ ?_
  rotate_left
  · rintro w' ⟨s0, ⟨s1, s2, s3⟩, s4, s5, s6⟩
    go_simp
    first | done | with_reducible rfl
  rotate_left
  · simp only [Act.put, List.setIfInBounds_toArray, List.set_cons_zero, List.set_cons_succ, i64_w, i32_w]
    rfl
  refine take_ (i := 7) (N := some 43) (v := ?_) (a' := ?_) #[true, true, true, true, true, true, true, true, false, false, false, false, false, false, false, false, false, false, false, false, false] rfl rfl (take_ofW HT_.out HW_.out (by kernel_rfl)) (fun _ _ _ h => h) (Or.inl ⟨by rfl, ?_⟩) hHeld ?_ ?_
  rotate_left
  · rintro w' ⟨s0, ⟨s1, s2, s3⟩, s4, s5, s6⟩
    go_simp
    first | done | with_reducible rfl
  rotate_left
  · simp only [Act.put, List.setIfInBounds_toArray, List.set_cons_zero, List.set_cons_succ, i64_w, i32_w]
    rfl
  refine take_ (i := 8) (N := some 44) (v := ?_) (a' := ?_) #[true, true, true, true, true, true, true, true, true, false, false, false, false, false, false, false, false, false, false, false, false] rfl rfl (take_ofW HT_.out HW_.out (by kernel_rfl)) (fun _ _ _ h => h) (Or.inl ⟨by rfl, ?_⟩) hHeld ?_ ?_
  rotate_left
  · rintro w' ⟨s0, ⟨s1, s2, s3⟩, s4, s5, s6⟩
    go_simp
    first | done | with_reducible rfl
  rotate_left
  · simp only [Act.put, List.setIfInBounds_toArray, List.set_cons_zero, List.set_cons_succ, i64_w, i32_w]
    rfl
  refine take_ (i := 9) (N := some 45) (v := ?_) (a' := ?_) #[true, true, true, true, true, true, true, true, true, true, false, false, false, false, false, false, false, false, false, false, false] rfl rfl (take_ofW HT_.out HW_.out (by kernel_rfl)) (fun _ _ _ h => h) (Or.inl ⟨by rfl, ?_⟩) hHeld ?_ ?_
  rotate_left
  · rintro w' ⟨s0, ⟨s1, s2, s3⟩, s4, s5, s6⟩
    go_simp
    first | done | with_reducible rfl
  rotate_left
  · simp only [Act.put, List.setIfInBounds_toArray, List.set_cons_zero, List.set_cons_succ, i64_w, i32_w]
    rfl
  refine take_ (i := 10) (N := some 46) (v := ?_) (a' := ?_) #[true, true, true, true, true, true, true, true, true, true, true, false, false, false, false, false, false, false, false, false, false] rfl rfl (take_ofW HT_.out HW_.out (by kernel_rfl)) (fun _ _ _ h => h) (Or.inl ⟨by rfl, ?_⟩) hHeld ?_ ?_
  rotate_left
  · rintro w' ⟨s0, ⟨s1, s2, s3⟩, s4, s5, s6⟩
    go_simp
    first | done | with_reducible rfl
  rotate_left
  · simp only [Act.put, List.setIfInBounds_toArray, List.set_cons_zero, List.set_cons_succ, i64_w, i32_w]
    rfl
  refine take_ (i := 11) (N := some 47) (v := ?_) (a' := ?_) #[true, true, true, true, true, true, true, true, true, true, true, true, false, false, false, false, false, false, false, false, false] rfl rfl (take_ofW HT_.out HW_.out (by kernel_rfl)) (fun _ _ _ h => h) (Or.inl ⟨by rfl, ?_⟩) hHeld ?_ ?_
  rotate_left
  · rintro w' ⟨s0, ⟨s1, s2, s3⟩, s4, s5, s6⟩
    go_simp
    first | done | with_reducible rfl
  rotate_left
  · simp only [Act.put, List.setIfInBounds_toArray, List.set_cons_zero, List.set_cons_succ, i64_w, i32_w]
    rfl
  refine take_ (i := 12) (N := some 48) (v := ?_) (a' := ?_) #[true, true, true, true, true, true, true, true, true, true, true, true, true, false, false, false, false, false, false, false, false] rfl rfl (take_ofW HT_.out HW_.out (by kernel_rfl)) (fun _ _ _ h => h) (Or.inl ⟨by rfl, ?_⟩) hHeld ?_ ?_
  rotate_left
  · rintro w' ⟨s0, ⟨s1, s2, s3⟩, s4, s5, s6⟩
    go_simp
    first | done | with_reducible rfl
  rotate_left
  · simp only [Act.put, List.setIfInBounds_toArray, List.set_cons_zero, List.set_cons_succ, i64_w, i32_w]
    rfl
  refine take_ (i := 13) (N := some 49) (v := ?_) (a' := ?_) #[true, true, true, true, true, true, true, true, true, true, true, true, true, true, false, false, false, false, false, false, false] rfl rfl (take_ofW HT_.out HW_.out (by kernel_rfl)) (fun _ _ _ h => h) (Or.inl ⟨by rfl, ?_⟩) hHeld ?_ ?_
  rotate_left
  · rintro w' ⟨s0, ⟨s1, s2, s3⟩, s4, s5, s6⟩
    go_simp
    first | done | with_reducible rfl
  rotate_left
  · simp only [Act.put, List.setIfInBounds_toArray, List.set_cons_zero, List.set_cons_succ, i64_w, i32_w]
    rfl
  refine take_ (i := 14) (N := some 50) (v := ?_) (a' := ?_) #[true, true, true, true, true, true, true, true, true, true, true, true, true, true, true, false, false, false, false, false, false] rfl rfl (take_ofW HT_.out HW_.out (by kernel_rfl)) (fun _ _ _ h => h) (Or.inl ⟨by rfl, ?_⟩) hHeld ?_ ?_
  rotate_left
  · rintro w' ⟨s0, ⟨s1, s2, s3⟩, s4, s5, s6⟩
    go_simp
    first | done | with_reducible rfl
  rotate_left
  · simp only [Act.put, List.setIfInBounds_toArray, List.set_cons_zero, List.set_cons_succ, i64_w, i32_w]
    rfl
  refine take_ (i := 15) (N := some 51) (v := ?_) (a' := ?_) #[true, true, true, true, true, true, true, true, true, true, true, true, true, true, true, true, false, false, false, false, false] rfl rfl (take_ofW HT_.out HW_.out (by kernel_rfl)) (fun _ _ _ h => h) (Or.inl ⟨by rfl, ?_⟩) hHeld ?_ ?_
  rotate_left
  · rintro w' ⟨s0, ⟨s1, s2, s3⟩, s4, s5, s6⟩
    go_simp
    first | done | with_reducible rfl
  rotate_left
  · simp only [Act.put, List.setIfInBounds_toArray, List.set_cons_zero, List.set_cons_succ, i64_w, i32_w]
    rfl
  refine take_ (i := 16) (N := some 52) (v := ?_) (a' := ?_) #[true, true, true, true, true, true, true, true, true, true, true, true, true, true, true, true, true, false, false, false, false] rfl rfl (take_ofW HT_.out HW_.out (by kernel_rfl)) (fun _ _ _ h => h) (Or.inl ⟨by rfl, ?_⟩) hHeld ?_ ?_
  rotate_left
  · rintro w' ⟨s0, ⟨s1, s2, s3⟩, s4, s5, s6⟩
    go_simp
    first | done | with_reducible rfl
  rotate_left
  · simp only [Act.put, List.setIfInBounds_toArray, List.set_cons_zero, List.set_cons_succ, i64_w, i32_w]
    rfl
  clear q1 a0 a1 a2 b0 b1 b2
  refine two_ (i := 17) (j := 19) (Ni := some 53) (Nj := some 4) #[true, true, true, true, true, true, true, true, true, true, true, true, true, true, true, true, true, true, false, false, false] #[true, true, true, true, true, true, true, true, true, true, true, true, true, true, true, true, true, false, false, true, false] rfl rfl rfl rfl (two_of HT_.out (by kernel_rfl)) (by decide) (by decide) (fun K hK => ?_) (fun K hK => ?_)
  case refine_1 =>
    have q1 := Q1.out
    have a0 := A0.out
    have a1 := A1.out
    have a2 := A2.out
    have b0 := B0.out
    have b1 := B1.out
    have b2 := B2.out
    refine value_ (w1 := ?_) (v := ?_) (by rfl) rfl ?_ ?_
    rotate_left 2
    · go_simp
      constructor
      · rfl
      · rfl
    refine hK.out _ _ ⟨pw_cell_below (below_alloc (below_drew (Below.refl W1.heap.size W1)) _) Q1.out, ⟨pw_cell_below (below_alloc (below_drew (Below.refl W1.heap.size W1)) _) A0.out, pw_cell_below (below_alloc (below_drew (Below.refl W1.heap.size W1)) _) A1.out, pw_cell_below (below_alloc (below_drew (Below.refl W1.heap.size W1)) _) A2.out⟩, pw_cell_below (below_alloc (below_drew (Below.refl W1.heap.size W1)) _) B0.out, pw_cell_below (below_alloc (below_drew (Below.refl W1.heap.size W1)) _) B1.out, pw_cell_below (below_alloc (below_drew (Below.refl W1.heap.size W1)) _) B2.out⟩ (fun hHeld => ?_)
    clear q1 a0 a1 a2 b0 b1 b2
    clear hK K
    refine norm_ (a' := ?_) ?_ ?_
    rotate_left
    · show Act.put _ (some 53) _ = _
      simp only [Act.put, List.setIfInBounds_toArray, List.set_cons_zero, List.set_cons_succ, i64_w, i32_w]
      rfl
    refine take_ (i := 18) (N := some 54) (v := ?_) (a' := ?_) #[true, true, true, true, true, true, true, true, true, true, true, true, true, true, true, true, true, true, true, false, false] rfl rfl (take_ofW HT_.out HW_.out (by kernel_rfl)) (fun _ _ _ h => h) (Or.inl ⟨by rfl, ?_⟩) hHeld ?_ ?_
    rotate_left
    · rintro w' ⟨s0, ⟨s1, s2, s3⟩, s4, s5, s6⟩
      go_simp
      first | done | with_reducible rfl
    rotate_left
    · simp only [Act.put, List.setIfInBounds_toArray, List.set_cons_zero, List.set_cons_succ, i64_w, i32_w]
      rfl
    refine one_ (i := 19) (N := some 4) #[true, true, true, true, true, true, true, true, true, true, true, true, true, true, true, true, true, true, true, true, false] rfl rfl (one_of HT_.out (by kernel_rfl)) (by decide) (fun K hK => ?_)
    refine value_ (w1 := ?_) (v := ?_) (by rfl) rfl ?_ ?_
    rotate_left 2
    · go_simp
      constructor
      · rfl
      · rfl
    refine hK.out _ _ ⟨pw_cell_below (below_alloc (below_alloc (below_drew (Below.refl W1.heap.size W1)) _) _) Q1.out, ⟨pw_cell_below (below_alloc (below_alloc (below_drew (Below.refl W1.heap.size W1)) _) _) A0.out, pw_cell_below (below_alloc (below_alloc (below_drew (Below.refl W1.heap.size W1)) _) _) A1.out, pw_cell_below (below_alloc (below_alloc (below_drew (Below.refl W1.heap.size W1)) _) _) A2.out⟩, pw_cell_below (below_alloc (below_alloc (below_drew (Below.refl W1.heap.size W1)) _) _) B0.out, pw_cell_below (below_alloc (below_alloc (below_drew (Below.refl W1.heap.size W1)) _) _) B1.out, pw_cell_below (below_alloc (below_alloc (below_drew (Below.refl W1.heap.size W1)) _) _) B2.out⟩ (fun hHeld => ?_)
    clear hK K
    refine norm_ (a' := ?_) ?_ ?_
    rotate_left
    · show Act.put _ (some 4) _ = _
      simp only [Act.put, List.setIfInBounds_toArray, List.set_cons_zero, List.set_cons_succ, i64_w, i32_w]
      rfl
    refine last_ (i := 20) (N := none) #[true, true, true, true, true, true, true, true, true, true, true, true, true, true, true, true, true, true, true, true, true] rfl rfl (one_of HT_.out (by kernel_rfl)) (by decide) (fun K hK => ?_)
    refine skip_ (w1 := ?_) (by rfl) rfl ?_ ?_
    rotate_left
    · go_simp
      rfl
    refine hK.out _ _ ?_
    clear hK K
    refine done_ (done_of HT_.out (by kernel_rfl)) ?_
    go_wp2_with fail
    have HB13 := Aside0.mk (show Below W1.heap.size W1 (((W1.alloc (Obj.cells #[.int .i64 a.f0, .int .i64 a.f1, .slice Aa a.f2.length ca, .int .i64 b.f0, .int .i64 b.f1, .slice Ab b.f2.length cb] 27)).alloc (Obj.cells #[.int .i64 t, .int .i64 (-1), .slice (some ⟨W1.heap.size, 0, none⟩) 2 2] 27)).drew) from below_drew1 (below_alloc (below_alloc (Below.refl _ _) _) _))
    have HKD := Aside0.mk (show Kd.R k27 27 (((W1.alloc (Obj.cells #[.int .i64 a.f0, .int .i64 a.f1, .slice Aa a.f2.length ca, .int .i64 b.f0, .int .i64 b.f1, .slice Ab b.f2.length cb] 27)).alloc (Obj.cells #[.int .i64 t, .int .i64 (-1), .slice (some ⟨W1.heap.size, 0, none⟩) 2 2] 27)).drew) w0.heap.size (fun k => (k ≠ g ∧ k ≠ bx) ∧ k ≠ bt) (.slice (some ⟨W1.heap.size, 0, none⟩) 2 2) [a, b] from Kd.R_drew (Kd.R_alloc (kids_lit HMA.out HMB.out (below_size HB1.out) ⟨⟨by have := blk_lt HG1.out; omega, by have := HBL.out; omega⟩, by have := HBL.out; omega⟩) _))
    have HZ := Aside0.mk (show (((W1.alloc (Obj.cells #[.int .i64 a.f0, .int .i64 a.f1, .slice Aa a.f2.length ca, .int .i64 b.f0, .int .i64 b.f1, .slice Ab b.f2.length cb] 27)).alloc (Obj.cells #[.int .i64 t, .int .i64 (-1), .slice (some ⟨W1.heap.size, 0, none⟩) 2 2] 27)).drew).heap[W1.heap.size + 1]? = some (Obj.cells #[.int .i64 t, .int .i64 (-1), .slice (some ⟨W1.heap.size, 0, none⟩) 2 2] 27) from by have hh := blk_new (W1.alloc (Obj.cells #[.int .i64 a.f0, .int .i64 a.f1, .slice Aa a.f2.length ca, .int .i64 b.f0, .int .i64 b.f1, .slice Ab b.f2.length cb] 27)) (Obj.cells #[.int .i64 t, .int .i64 (-1), .slice (some ⟨W1.heap.size, 0, none⟩) 2 2] 27); rw [World.size_alloc] at hh; exact blk_drew hh)
    clear A0 A1 A2 B0 B1 B2 Q1 HMA HMB
    generalize ((W1.alloc (Obj.cells #[.int .i64 a.f0, .int .i64 a.f1, .slice Aa a.f2.length ca, .int .i64 b.f0, .int .i64 b.f1, .slice Ab b.f2.length cb] 27)).alloc (Obj.cells #[.int .i64 t, .int .i64 (-1), .slice (some ⟨W1.heap.size, 0, none⟩) 2 2] 27)).drew = W3 at *
    have HB3 := Aside0.mk (below_step HB1.out HB13.out)
    have HG3 := Aside0.mk ((HB13.out.block _ (blk_lt HG1.out)).trans HG1.out)
    have HT3 := Aside0.mk (Kd.R_below HT1.out HB13.out)
    have HX3 := Aside0.mk (Kd.R_below HX1.out HB13.out)
    have HBM := Aside0.mk (show bx < W3.heap.size ∧ bt < W3.heap.size from ⟨Nat.lt_of_lt_of_le HBL.out.1 HB13.out.size, Nat.lt_of_lt_of_le HBL.out.2 HB13.out.size⟩)
    clear HB1 HG1 HT1 HX1 HBL HB13
    obtain ⟨z, e_⟩ : ∃ x_, W1.heap.size + 1 = x_ := ⟨_, rfl⟩
    rw [e_] at HZ ⊢
    clear e_
    obtain ⟨hk, e_⟩ : ∃ x_, W1.heap.size = x_ := ⟨_, rfl⟩
    rw [e_] at HKD HZ ⊢
    clear e_
    have q1 : W3.drew.cell? ⟨g, 1, none⟩ = some (.slice (some ⟨bt, 0, none⟩) nt ct) := (blk_cell HG3.out 1).trans rfl
    have z0 : W3.drew.cell? ⟨z, 0, none⟩ = some (.int .i64 t) := (blk_cell HZ.out 0).trans rfl
    have z1 : W3.drew.cell? ⟨z, 1, none⟩ = some (.int .i64 (-1)) := (blk_cell HZ.out 1).trans rfl
    have z2 : W3.drew.cell? ⟨z, 2, none⟩ = some (.slice (some ⟨hk, 0, none⟩) 2 2) := (blk_cell HZ.out 2).trans rfl
    refine start_ (n := 16) (S := (fun w' => w'.cell? ⟨g, 1, none⟩ = some (.slice (some ⟨bt, 0, none⟩) nt ct) ∧ w'.cell? ⟨z, 0, none⟩ = some (.int .i64 t) ∧ w'.cell? ⟨z, 1, none⟩ = some (.int .i64 (-1)) ∧ w'.cell? ⟨z, 2, none⟩ = some (.slice (some ⟨hk, 0, none⟩) 2 2))) (ds := [15]) #[false, false, false, false, false, false, false, false, false, false, false, false, false, false, false, false] (by kernel_rfl) rfl rfl ⟨q1, z0, z1, z2⟩ (fun hHeld => ?_)
    refine with_tabW appl_tab4 appl_bits4 (fun HT_ HW_ => ?_)
    refine take_ (i := 0) (N := some 55) (v := ?_) (a' := ?_) #[true, false, false, false, false, false, false, false, false, false, false, false, false, false, false, false] rfl rfl (take_ofW HT_.out HW_.out (by kernel_rfl)) (fun _ _ _ h => h) (Or.inl ⟨by rfl, ?_⟩) hHeld ?_ ?_
    rotate_left
    · rintro w' ⟨s0, s1, s2, s3⟩
      go_simp
      first | done | with_reducible rfl
    rotate_left
    · simp only [Act.put, List.setIfInBounds_toArray, List.set_cons_zero, List.set_cons_succ, i64_w, i32_w]
      rfl
    refine take_ (i := 1) (N := some 56) (v := ?_) (a' := ?_) #[true, true, false, false, false, false, false, false, false, false, false, false, false, false, false, false] rfl rfl (take_ofW HT_.out HW_.out (by kernel_rfl)) (fun _ _ _ h => h) (Or.inl ⟨by rfl, ?_⟩) hHeld ?_ ?_
    rotate_left
    · rintro w' ⟨s0, s1, s2, s3⟩
      go_simp
      first | done | with_reducible rfl
    rotate_left
    · simp only [Act.put, List.setIfInBounds_toArray, List.set_cons_zero, List.set_cons_succ, i64_w, i32_w]
      rfl
    refine take_ (i := 2) (N := some 57) (v := ?_) (a' := ?_) #[true, true, true, false, false, false, false, false, false, false, false, false, false, false, false, false] rfl rfl (take_ofW HT_.out HW_.out (by kernel_rfl)) (fun _ _ _ h => h) (Or.inl ⟨by rfl, ?_⟩) hHeld ?_ ?_
    rotate_left
    · rintro w' ⟨s0, s1, s2, s3⟩
      go_simp
      first | done | with_reducible rfl
    rotate_left
    · simp only [Act.put, List.setIfInBounds_toArray, List.set_cons_zero, List.set_cons_succ, i64_w, i32_w]
      rfl
    refine take_ (i := 3) (N := some 58) (v := ?_) (a' := ?_) #[true, true, true, true, false, false, false, false, false, false, false, false, false, false, false, false] rfl rfl (take_ofW HT_.out HW_.out (by kernel_rfl)) (fun _ _ _ h => h) (Or.inl ⟨by rfl, ?_⟩) hHeld ?_ ?_
    rotate_left
    · rintro w' ⟨s0, s1, s2, s3⟩
      go_simp
      first | done | with_reducible rfl
    rotate_left
    · simp only [Act.put, List.setIfInBounds_toArray, List.set_cons_zero, List.set_cons_succ, i64_w, i32_w]
      rfl
    refine take_ (i := 4) (N := some 59) (v := ?_) (a' := ?_) #[true, true, true, true, true, false, false, false, false, false, false, false, false, false, false, false] rfl rfl (take_ofW HT_.out HW_.out (by kernel_rfl)) (fun _ _ _ h => h) (Or.inl ⟨by rfl, ?_⟩) hHeld ?_ ?_
    rotate_left
    · rintro w' ⟨s0, s1, s2, s3⟩
      go_simp
      first | done | with_reducible rfl
    rotate_left
    · simp only [Act.put, List.setIfInBounds_toArray, List.set_cons_zero, List.set_cons_succ, i64_w, i32_w]
      rfl
    refine take_ (i := 5) (N := some 60) (v := ?_) (a' := ?_) #[true, true, true, true, true, true, false, false, false, false, false, false, false, false, false, false] rfl rfl (take_ofW HT_.out HW_.out (by kernel_rfl)) (fun _ _ _ h => h) (Or.inl ⟨by rfl, ?_⟩) hHeld ?_ ?_
    rotate_left
    · rintro w' ⟨s0, s1, s2, s3⟩
      go_simp
      first | done | with_reducible rfl
    rotate_left
    · simp only [Act.put, List.setIfInBounds_toArray, List.set_cons_zero, List.set_cons_succ, i64_w, i32_w]
      rfl
    refine take_ (i := 6) (N := some 61) (v := ?_) (a' := ?_) #[true, true, true, true, true, true, true, false, false, false, false, false, false, false, false, false] rfl rfl (take_ofW HT_.out HW_.out (by kernel_rfl)) (fun _ _ _ h => h) (Or.inl ⟨by rfl, ?_⟩) hHeld ?_ ?_
    rotate_left
    · rintro w' ⟨s0, s1, s2, s3⟩
      go_simp
      first | done | with_reducible rfl
    rotate_left
    · simp only [Act.put, List.setIfInBounds_toArray, List.set_cons_zero, List.set_cons_succ, i64_w, i32_w]
      rfl
    refine take_ (i := 7) (N := some 62) (v := ?_) (a' := ?_) #[true, true, true, true, true, true, true, true, false, false, false, false, false, false, false, false] rfl rfl (take_ofW HT_.out HW_.out (by kernel_rfl)) (fun _ _ _ h => h) (Or.inl ⟨by rfl, ?_⟩) hHeld ?_ ?_
    rotate_left
    · rintro w' ⟨s0, s1, s2, s3⟩
      go_simp
      first | done | with_reducible rfl
    rotate_left
    · simp only [Act.put, List.setIfInBounds_toArray, List.set_cons_zero, List.set_cons_succ, i64_w, i32_w]
      rfl
    refine take_ (i := 8) (N := some 63) (v := ?_) (a' := ?_) #[true, true, true, true, true, true, true, true, true, false, false, false, false, false, false, false] rfl rfl (take_ofW HT_.out HW_.out (by kernel_rfl)) (fun _ _ _ h => h) (Or.inl ⟨by rfl, ?_⟩) hHeld ?_ ?_
    rotate_left
    · rintro w' ⟨s0, s1, s2, s3⟩
      go_simp
      first | done | with_reducible rfl
    rotate_left
    · simp only [Act.put, List.setIfInBounds_toArray, List.set_cons_zero, List.set_cons_succ, i64_w, i32_w]
      rfl
    refine take_ (i := 9) (N := some 64) (v := ?_) (a' := ?_) #[true, true, true, true, true, true, true, true, true, true, false, false, false, false, false, false] rfl rfl (take_ofW HT_.out HW_.out (by kernel_rfl)) (fun _ _ _ h => h) (Or.inl ⟨by rfl, ?_⟩) hHeld ?_ ?_
    rotate_left
    · rintro w' ⟨s0, s1, s2, s3⟩
      go_simp
      first | done | with_reducible rfl
    rotate_left
    · simp only [Act.put, List.setIfInBounds_toArray, List.set_cons_zero, List.set_cons_succ, i64_w, i32_w]
      rfl
    refine take_ (i := 10) (N := some 65) (v := ?_) (a' := ?_) #[true, true, true, true, true, true, true, true, true, true, true, false, false, false, false, false] rfl rfl (take_ofW HT_.out HW_.out (by kernel_rfl)) (fun _ _ _ h => h) (Or.inl ⟨by rfl, ?_⟩) hHeld ?_ ?_
    rotate_left
    · rintro w' ⟨s0, s1, s2, s3⟩
      go_simp
      first | done | with_reducible rfl
    rotate_left
    · simp only [Act.put, List.setIfInBounds_toArray, List.set_cons_zero, List.set_cons_succ, i64_w, i32_w]
      rfl
    refine one_ (i := 11) (N := some 66) #[true, true, true, true, true, true, true, true, true, true, true, true, false, false, false, false] rfl rfl (one_of HT_.out (by kernel_rfl)) (by decide) (fun K hK => ?_)
    refine value_ (w1 := ?_) (v := ?_) (by rfl) rfl ?_ ?_
    rotate_left 2
    · go_simp
      constructor
      · rfl
      · rfl
    refine hK.out _ _ ⟨pw_cell_below (below_alloc (below_drew (Below.refl W3.heap.size W3)) _) (show W3.cell? _ = _ from (blk_cell HG3.out 1).trans rfl), pw_cell_below (below_alloc (below_drew (Below.refl W3.heap.size W3)) _) (show W3.cell? _ = _ from (blk_cell HZ.out 0).trans rfl), pw_cell_below (below_alloc (below_drew (Below.refl W3.heap.size W3)) _) (show W3.cell? _ = _ from (blk_cell HZ.out 1).trans rfl), pw_cell_below (below_alloc (below_drew (Below.refl W3.heap.size W3)) _) (show W3.cell? _ = _ from (blk_cell HZ.out 2).trans rfl)⟩ (fun hHeld => ?_)
    clear hK K
    refine norm_ (a' := ?_) ?_ ?_
    rotate_left
    · show Act.put _ (some 66) _ = _
      simp only [Act.put, List.setIfInBounds_toArray, List.set_cons_zero, List.set_cons_succ, i64_w, i32_w]
      rfl
    have HBA := Aside0.mk (show Below W3.heap.size W3 (W3.alloc (Obj.cells #[.int .i64 t, .int .i64 (-1), .slice (some ⟨hk, 0, none⟩) 2 2] 27)).drew from below_drew1 (below_alloc (Below.refl _ _) _))
    have HTA := Kd.R_below (Kd.R_take (m := p) HT3.out (by rw [hlt]; omega)) HBA.out
    rw [List.take_left' hp] at HTA
    have HGA := Aside0.mk ((HBA.out.block _ (blk_lt HG3.out)).trans HG3.out)
    have HXA := Aside0.mk (Kd.R_below HX3.out HBA.out)
    have HBB := Aside0.mk (below_step HB3.out HBA.out)
    have HKA := Aside0.mk (Kd.R_below HKD.out HBA.out)
    have HNW := blk_drew (blk_new W3 (Obj.cells #[.int .i64 t, .int .i64 (-1), .slice (some ⟨hk, 0, none⟩) 2 2] 27))
    have hszA : (W3.alloc (Obj.cells #[.int .i64 t, .int .i64 (-1), .slice (some ⟨hk, 0, none⟩) 2 2] 27)).drew.heap.size = W3.heap.size + 1 := by show (W3.alloc (Obj.cells #[.int .i64 t, .int .i64 (-1), .slice (some ⟨hk, 0, none⟩) 2 2] 27)).heap.size = _; rw [World.size_alloc]
    obtain ⟨WA, hWA⟩ : ∃ WA, (W3.alloc (Obj.cells #[.int .i64 t, .int .i64 (-1), .slice (some ⟨hk, 0, none⟩) 2 2] 27)).drew = WA := ⟨_, rfl⟩
    rw [hWA] at HTA HGA HXA HBB HKA HNW hszA HBA ⊢
    clear hWA HT3 HX3 HB3 HKD q1 z0 z1 z2
    obtain ⟨h0, inner, hown, hrep⟩ := HTA
    obtain ⟨ti, hti, htz, hts, htb⟩ := tm_info
    obtain ⟨v', w', hrun, r1, r2⟩ := run_append_arg_grows (P := Try.prog) WA 25 25 27 ti (.agg #[.int .i64 0, .int .i64 0, .slice none 0 0]) 3 40 hu25 hti htz hts htb rfl (by decide) ⟨bt, 0, none⟩ p p inner (by have := hown.1; rw [hp] at this; exact this) (fun j u hj => by rw [Addr.add_lit, Nat.zero_add]; rw [hp] at hown; exact own_cells hown j u hj) ⟨W3.heap.size, 0, none⟩ 1 1 [.int .i64 t, .int .i64 (-1), .slice (some ⟨hk, 0, none⟩) 2 2] rfl (fun j u hj => by rw [Addr.add_lit, Nat.zero_add, blk_cell HNW j]; simpa using hj) (by omega) (by simp only [maxLen]; omega) (by omega)
    rw [hp1] at r1
    obtain ⟨v1, c1, rfl⟩ := own_slice r1
    have HBW := Aside0.mk (show Below WA.heap.size WA w' from ⟨r2.os, r2.tape, r2.output, r2.size, fun k hk => r2.block k hk (by simp)⟩)
    refine one_ (i := 12) (N := some 67) #[true, true, true, true, true, true, true, true, true, true, true, true, true, false, false, false] rfl rfl (one_of HT_.out (by kernel_rfl)) (by decide) (fun K hK => ?_)
    refine value_ (w1 := w') (v := .slice v1 p1 c1) (by rfl) rfl ?hrun ?_
    case hrun => simp [execOp, resolve, invoke, builtin, Act.eval, hrun, Result.andThen]
    refine hK.out _ _ ⟨pw_cell_below (below_step HBA.out HBW.out) (show W3.cell? _ = _ from (blk_cell HG3.out 1).trans rfl), pw_cell_below (below_step HBA.out HBW.out) (show W3.cell? _ = _ from (blk_cell HZ.out 0).trans rfl), pw_cell_below (below_step HBA.out HBW.out) (show W3.cell? _ = _ from (blk_cell HZ.out 1).trans rfl), pw_cell_below (below_step HBA.out HBW.out) (show W3.cell? _ = _ from (blk_cell HZ.out 2).trans rfl)⟩ (fun hHeld => ?_)
    clear hK K
    refine norm_ (a' := ?_) ?_ ?_
    rotate_left
    · show Act.put _ (some 67) _ = _
      simp only [Act.put, List.setIfInBounds_toArray, List.set_cons_zero, List.set_cons_succ, i64_w, i32_w]
      rfl
    refine take_ (i := 13) (N := some 68) (v := ?_) (a' := ?_) #[true, true, true, true, true, true, true, true, true, true, true, true, true, true, false, false] rfl rfl (take_ofW HT_.out HW_.out (by kernel_rfl)) (fun _ _ _ h => h) (Or.inl ⟨by rfl, ?_⟩) hHeld ?_ ?_
    rotate_left
    · rintro w' ⟨s0, s1, s2, s3⟩
      go_simp
      first | done | with_reducible rfl
    rotate_left
    · simp only [Act.put, List.setIfInBounds_toArray, List.set_cons_zero, List.set_cons_succ, i64_w, i32_w]
      rfl
    refine take_ (i := 14) (N := some 69) (v := ?_) (a' := ?_) #[true, true, true, true, true, true, true, true, true, true, true, true, true, true, true, false] rfl rfl (take_ofW HT_.out HW_.out (by kernel_rfl)) (fun _ _ _ h => h) (Or.inl ⟨by rfl, ?_⟩) hHeld ?_ ?_
    rotate_left
    · rintro w' ⟨s0, s1, s2, s3⟩
      go_simp
      first | done | with_reducible rfl
    rotate_left
    · simp only [Act.put, List.setIfInBounds_toArray, List.set_cons_zero, List.set_cons_succ, i64_w, i32_w]
      rfl
    have HGw := Aside0.mk ((HBW.out.block _ (blk_lt HGA.out)).trans HGA.out)
    have q1 : w'.cell? ⟨g, 1, none⟩ = some (.slice (some ⟨bt, 0, none⟩) nt ct) := (blk_cell HGw.out 1).trans rfl
    have hfz := blk_frozen HGw.out 1
    refine last_ (i := 15) (N := none) #[true, true, true, true, true, true, true, true, true, true, true, true, true, true, true, true] rfl rfl (one_of HT_.out (by kernel_rfl)) (by decide) (fun K hK => ?_)
    refine skip_ (w1 := ?_) (by rfl) rfl ?_ ?_
    rotate_left
    · go_simp
      rfl
    refine hK.out _ _ ?_
    clear hK K
    refine done_ (done_of HT_.out (by kernel_rfl)) ?_
    go_wp2_with fail
    go_end0
    refine ⟨rfl, .slice v1 p1 c1, .slice (some ⟨bx, 0, none⟩) m cx, blk_put HGw.out 1 _ rfl, hg0, ?_, ?_, ?_⟩
    · have hR := Kd.R_appended (d := k27) (e := 27) (base := w0.heap.size) (ok := fun k => k ≠ g ∧ k ≠ bx) (okp := fun k => (k ≠ g ∧ k ≠ bx) ∧ k ≠ bt) (W := WA) (w1 := w') (v := .slice (some ⟨bt, 0, none⟩) p ct) (v1 := .slice v1 p1 c1) (xs := ts) (p := ⟨t, -1, [a, b]⟩) (inner := inner) (cs := [.int .i64 t, .int .i64 (-1), .slice (some ⟨hk, 0, none⟩) 2 2]) h0 hrep (k27_mkM _ _ _ (⟨t, -1, [a, b]⟩ : S27) HKA.out) (fun k hk => ⟨hk.1, fun e => hk.2 (by simpa [Value.ownBlock] using e)⟩) (fun k hk => ⟨by have := blk_lt HGA.out; omega, by have := HBM.out.1; omega⟩) (by rw [hp, hp1]; exact own_weaken r1 (below_size HBB.out)) (r2.but _) (by
        rcases own_base' r1 with h | ⟨b_, h, hb_⟩
        · right
          rcases r1.2 with ⟨_, hz_⟩ | ⟨g', cap', cur, hv, hb, _⟩
          · exact absurd hz_ (by omega)
          · rw [hv]
            exact ⟨g', rfl, hb⟩
        · exact .inr ⟨b_, h, hb_⟩)
      refine Kd.R_mono (Kd.R_far (p := ⟨g, 1, none⟩) hR (fun k hk => hk.1) _) (fun k hk => ⟨hk.1, fun e => hk.2 (by simpa [Value.ownBlock] using e)⟩)
    · exact Kd.R_far (p := ⟨g, 1, none⟩) (Kd.R_below HXA.out HBW.out) (fun k hk => hk) _
    · exact below_set (below_step HBB.out HBW.out) hg0
  case refine_2 =>
    have q1 := Q1.out
    have a0 := A0.out
    have a1 := A1.out
    have a2 := A2.out
    have b0 := B0.out
    have b1 := B1.out
    have b2 := B2.out
    refine value_ (w1 := ?_) (v := ?_) (by rfl) rfl ?_ ?_
    rotate_left 2
    · go_simp
      constructor
      · rfl
      · rfl
    refine hK.out _ _ ⟨pw_cell_below (below_alloc (below_drew (Below.refl W1.heap.size W1)) _) Q1.out, ⟨pw_cell_below (below_alloc (below_drew (Below.refl W1.heap.size W1)) _) A0.out, pw_cell_below (below_alloc (below_drew (Below.refl W1.heap.size W1)) _) A1.out, pw_cell_below (below_alloc (below_drew (Below.refl W1.heap.size W1)) _) A2.out⟩, pw_cell_below (below_alloc (below_drew (Below.refl W1.heap.size W1)) _) B0.out, pw_cell_below (below_alloc (below_drew (Below.refl W1.heap.size W1)) _) B1.out, pw_cell_below (below_alloc (below_drew (Below.refl W1.heap.size W1)) _) B2.out⟩ (fun hHeld => ?_)
    clear q1 a0 a1 a2 b0 b1 b2
    clear hK K
    refine norm_ (a' := ?_) ?_ ?_
    rotate_left
    · show Act.put _ (some 4) _ = _
      simp only [Act.put, List.setIfInBounds_toArray, List.set_cons_zero, List.set_cons_succ, i64_w, i32_w]
      rfl
    refine one_ (i := 17) (N := some 53) #[true, true, true, true, true, true, true, true, true, true, true, true, true, true, true, true, true, true, false, true, false] rfl rfl (one_of HT_.out (by kernel_rfl)) (by decide) (fun K hK => ?_)
    refine value_ (w1 := ?_) (v := ?_) (by rfl) rfl ?_ ?_
    rotate_left 2
    · go_simp
      constructor
      · rfl
      · rfl
    refine hK.out _ _ ⟨pw_cell_below (below_alloc (below_alloc (below_drew (Below.refl W1.heap.size W1)) _) _) Q1.out, ⟨pw_cell_below (below_alloc (below_alloc (below_drew (Below.refl W1.heap.size W1)) _) _) A0.out, pw_cell_below (below_alloc (below_alloc (below_drew (Below.refl W1.heap.size W1)) _) _) A1.out, pw_cell_below (below_alloc (below_alloc (below_drew (Below.refl W1.heap.size W1)) _) _) A2.out⟩, pw_cell_below (below_alloc (below_alloc (below_drew (Below.refl W1.heap.size W1)) _) _) B0.out, pw_cell_below (below_alloc (below_alloc (below_drew (Below.refl W1.heap.size W1)) _) _) B1.out, pw_cell_below (below_alloc (below_alloc (below_drew (Below.refl W1.heap.size W1)) _) _) B2.out⟩ (fun hHeld => ?_)
    clear hK K
    refine norm_ (a' := ?_) ?_ ?_
    rotate_left
    · show Act.put _ (some 53) _ = _
      simp only [Act.put, List.setIfInBounds_toArray, List.set_cons_zero, List.set_cons_succ, i64_w, i32_w]
      rfl
    refine take_ (i := 18) (N := some 54) (v := ?_) (a' := ?_) #[true, true, true, true, true, true, true, true, true, true, true, true, true, true, true, true, true, true, true, true, false] rfl rfl (take_ofW HT_.out HW_.out (by kernel_rfl)) (fun _ _ _ h => h) (Or.inl ⟨by rfl, ?_⟩) hHeld ?_ ?_
    rotate_left
    · rintro w' ⟨s0, ⟨s1, s2, s3⟩, s4, s5, s6⟩
      go_simp
      first | done | with_reducible rfl
    rotate_left
    · simp only [Act.put, List.setIfInBounds_toArray, List.set_cons_zero, List.set_cons_succ, i64_w, i32_w]
      rfl
    refine last_ (i := 20) (N := none) #[true, true, true, true, true, true, true, true, true, true, true, true, true, true, true, true, true, true, true, true, true] rfl rfl (one_of HT_.out (by kernel_rfl)) (by decide) (fun K hK => ?_)
    refine skip_ (w1 := ?_) (by rfl) rfl ?_ ?_
    rotate_left
    · go_simp
      rfl
    refine hK.out _ _ ?_
    clear hK K
    refine done_ (done_of HT_.out (by kernel_rfl)) ?_
    go_wp2_with fail
    have HB13 := Aside0.mk (show Below W1.heap.size W1 (((W1.alloc (Obj.cells #[.int .i64 t, .int .i64 (-1), .slice (some ⟨W1.heap.size + 1, 0, none⟩) 2 2] 27)).alloc (Obj.cells #[.int .i64 a.f0, .int .i64 a.f1, .slice Aa a.f2.length ca, .int .i64 b.f0, .int .i64 b.f1, .slice Ab b.f2.length cb] 27)).drew) from below_drew1 (below_alloc (below_alloc (Below.refl _ _) _) _))
    have HKD := Aside0.mk (show Kd.R k27 27 (((W1.alloc (Obj.cells #[.int .i64 t, .int .i64 (-1), .slice (some ⟨W1.heap.size + 1, 0, none⟩) 2 2] 27)).alloc (Obj.cells #[.int .i64 a.f0, .int .i64 a.f1, .slice Aa a.f2.length ca, .int .i64 b.f0, .int .i64 b.f1, .slice Ab b.f2.length cb] 27)).drew) w0.heap.size (fun k => (k ≠ g ∧ k ≠ bx) ∧ k ≠ bt) (.slice (some ⟨W1.heap.size + 1, 0, none⟩) 2 2) [a, b] from by have hh := kids_lit (W := W1.alloc (Obj.cells #[.int .i64 t, .int .i64 (-1), .slice (some ⟨W1.heap.size + 1, 0, none⟩) 2 2] 27)) (Kd.M_below HMA.out (below_alloc (Below.refl _ _) _)) (Kd.M_below HMB.out (below_alloc (Below.refl _ _) _)) (Nat.le_trans (below_size HB1.out) (by rw [World.size_alloc]; omega)) ⟨⟨by have := blk_lt HG1.out; rw [World.size_alloc]; omega, by have := HBL.out; rw [World.size_alloc]; omega⟩, by have := HBL.out; rw [World.size_alloc]; omega⟩; rw [World.size_alloc] at hh; exact Kd.R_drew hh)
    have HZ := Aside0.mk (show (((W1.alloc (Obj.cells #[.int .i64 t, .int .i64 (-1), .slice (some ⟨W1.heap.size + 1, 0, none⟩) 2 2] 27)).alloc (Obj.cells #[.int .i64 a.f0, .int .i64 a.f1, .slice Aa a.f2.length ca, .int .i64 b.f0, .int .i64 b.f1, .slice Ab b.f2.length cb] 27)).drew).heap[W1.heap.size]? = some (Obj.cells #[.int .i64 t, .int .i64 (-1), .slice (some ⟨W1.heap.size + 1, 0, none⟩) 2 2] 27) from blk_drew (blk_alloc (blk_new W1 (Obj.cells #[.int .i64 t, .int .i64 (-1), .slice (some ⟨W1.heap.size + 1, 0, none⟩) 2 2] 27)) (Obj.cells #[.int .i64 a.f0, .int .i64 a.f1, .slice Aa a.f2.length ca, .int .i64 b.f0, .int .i64 b.f1, .slice Ab b.f2.length cb] 27)))
    clear A0 A1 A2 B0 B1 B2 Q1 HMA HMB
    generalize ((W1.alloc (Obj.cells #[.int .i64 t, .int .i64 (-1), .slice (some ⟨W1.heap.size + 1, 0, none⟩) 2 2] 27)).alloc (Obj.cells #[.int .i64 a.f0, .int .i64 a.f1, .slice Aa a.f2.length ca, .int .i64 b.f0, .int .i64 b.f1, .slice Ab b.f2.length cb] 27)).drew = W3 at *
    have HB3 := Aside0.mk (below_step HB1.out HB13.out)
    have HG3 := Aside0.mk ((HB13.out.block _ (blk_lt HG1.out)).trans HG1.out)
    have HT3 := Aside0.mk (Kd.R_below HT1.out HB13.out)
    have HX3 := Aside0.mk (Kd.R_below HX1.out HB13.out)
    have HBM := Aside0.mk (show bx < W3.heap.size ∧ bt < W3.heap.size from ⟨Nat.lt_of_lt_of_le HBL.out.1 HB13.out.size, Nat.lt_of_lt_of_le HBL.out.2 HB13.out.size⟩)
    clear HB1 HG1 HT1 HX1 HBL HB13
    obtain ⟨hk, e_⟩ : ∃ x_, W1.heap.size + 1 = x_ := ⟨_, rfl⟩
    rw [e_] at HKD HZ ⊢
    clear e_
    obtain ⟨z, e_⟩ : ∃ x_, W1.heap.size = x_ := ⟨_, rfl⟩
    rw [e_] at HZ ⊢
    clear e_
    have q1 : W3.drew.cell? ⟨g, 1, none⟩ = some (.slice (some ⟨bt, 0, none⟩) nt ct) := (blk_cell HG3.out 1).trans rfl
    have z0 : W3.drew.cell? ⟨z, 0, none⟩ = some (.int .i64 t) := (blk_cell HZ.out 0).trans rfl
    have z1 : W3.drew.cell? ⟨z, 1, none⟩ = some (.int .i64 (-1)) := (blk_cell HZ.out 1).trans rfl
    have z2 : W3.drew.cell? ⟨z, 2, none⟩ = some (.slice (some ⟨hk, 0, none⟩) 2 2) := (blk_cell HZ.out 2).trans rfl
    refine start_ (n := 16) (S := (fun w' => w'.cell? ⟨g, 1, none⟩ = some (.slice (some ⟨bt, 0, none⟩) nt ct) ∧ w'.cell? ⟨z, 0, none⟩ = some (.int .i64 t) ∧ w'.cell? ⟨z, 1, none⟩ = some (.int .i64 (-1)) ∧ w'.cell? ⟨z, 2, none⟩ = some (.slice (some ⟨hk, 0, none⟩) 2 2))) (ds := [15]) #[false, false, false, false, false, false, false, false, false, false, false, false, false, false, false, false] (by kernel_rfl) rfl rfl ⟨q1, z0, z1, z2⟩ (fun hHeld => ?_)
    refine with_tabW appl_tab4 appl_bits4 (fun HT_ HW_ => ?_)
    refine take_ (i := 0) (N := some 55) (v := ?_) (a' := ?_) #[true, false, false, false, false, false, false, false, false, false, false, false, false, false, false, false] rfl rfl (take_ofW HT_.out HW_.out (by kernel_rfl)) (fun _ _ _ h => h) (Or.inl ⟨by rfl, ?_⟩) hHeld ?_ ?_
    rotate_left
    · rintro w' ⟨s0, s1, s2, s3⟩
      go_simp
      first | done | with_reducible rfl
    rotate_left
    · simp only [Act.put, List.setIfInBounds_toArray, List.set_cons_zero, List.set_cons_succ, i64_w, i32_w]
      rfl
    refine take_ (i := 1) (N := some 56) (v := ?_) (a' := ?_) #[true, true, false, false, false, false, false, false, false, false, false, false, false, false, false, false] rfl rfl (take_ofW HT_.out HW_.out (by kernel_rfl)) (fun _ _ _ h => h) (Or.inl ⟨by rfl, ?_⟩) hHeld ?_ ?_
    rotate_left
    · rintro w' ⟨s0, s1, s2, s3⟩
      go_simp
      first | done | with_reducible rfl
    rotate_left
    · simp only [Act.put, List.setIfInBounds_toArray, List.set_cons_zero, List.set_cons_succ, i64_w, i32_w]
      rfl
    refine take_ (i := 2) (N := some 57) (v := ?_) (a' := ?_) #[true, true, true, false, false, false, false, false, false, false, false, false, false, false, false, false] rfl rfl (take_ofW HT_.out HW_.out (by kernel_rfl)) (fun _ _ _ h => h) (Or.inl ⟨by rfl, ?_⟩) hHeld ?_ ?_
    rotate_left
    · rintro w' ⟨s0, s1, s2, s3⟩
      go_simp
      first | done | with_reducible rfl
    rotate_left
    · simp only [Act.put, List.setIfInBounds_toArray, List.set_cons_zero, List.set_cons_succ, i64_w, i32_w]
      rfl
    refine take_ (i := 3) (N := some 58) (v := ?_) (a' := ?_) #[true, true, true, true, false, false, false, false, false, false, false, false, false, false, false, false] rfl rfl (take_ofW HT_.out HW_.out (by kernel_rfl)) (fun _ _ _ h => h) (Or.inl ⟨by rfl, ?_⟩) hHeld ?_ ?_
    rotate_left
    · rintro w' ⟨s0, s1, s2, s3⟩
      go_simp
      first | done | with_reducible rfl
    rotate_left
    · simp only [Act.put, List.setIfInBounds_toArray, List.set_cons_zero, List.set_cons_succ, i64_w, i32_w]
      rfl
    refine take_ (i := 4) (N := some 59) (v := ?_) (a' := ?_) #[true, true, true, true, true, false, false, false, false, false, false, false, false, false, false, false] rfl rfl (take_ofW HT_.out HW_.out (by kernel_rfl)) (fun _ _ _ h => h) (Or.inl ⟨by rfl, ?_⟩) hHeld ?_ ?_
    rotate_left
    · rintro w' ⟨s0, s1, s2, s3⟩
      go_simp
      first | done | with_reducible rfl
    rotate_left
    · simp only [Act.put, List.setIfInBounds_toArray, List.set_cons_zero, List.set_cons_succ, i64_w, i32_w]
      rfl
    refine take_ (i := 5) (N := some 60) (v := ?_) (a' := ?_) #[true, true, true, true, true, true, false, false, false, false, false, false, false, false, false, false] rfl rfl (take_ofW HT_.out HW_.out (by kernel_rfl)) (fun _ _ _ h => h) (Or.inl ⟨by rfl, ?_⟩) hHeld ?_ ?_
    rotate_left
    · rintro w' ⟨s0, s1, s2, s3⟩
      go_simp
      first | done | with_reducible rfl
    rotate_left
    · simp only [Act.put, List.setIfInBounds_toArray, List.set_cons_zero, List.set_cons_succ, i64_w, i32_w]
      rfl
    refine take_ (i := 6) (N := some 61) (v := ?_) (a' := ?_) #[true, true, true, true, true, true, true, false, false, false, false, false, false, false, false, false] rfl rfl (take_ofW HT_.out HW_.out (by kernel_rfl)) (fun _ _ _ h => h) (Or.inl ⟨by rfl, ?_⟩) hHeld ?_ ?_
    rotate_left
    · rintro w' ⟨s0, s1, s2, s3⟩
      go_simp
      first | done | with_reducible rfl
    rotate_left
    · simp only [Act.put, List.setIfInBounds_toArray, List.set_cons_zero, List.set_cons_succ, i64_w, i32_w]
      rfl
    refine take_ (i := 7) (N := some 62) (v := ?_) (a' := ?_) #[true, true, true, true, true, true, true, true, false, false, false, false, false, false, false, false] rfl rfl (take_ofW HT_.out HW_.out (by kernel_rfl)) (fun _ _ _ h => h) (Or.inl ⟨by rfl, ?_⟩) hHeld ?_ ?_
    rotate_left
    · rintro w' ⟨s0, s1, s2, s3⟩
      go_simp
      first | done | with_reducible rfl
    rotate_left
    · simp only [Act.put, List.setIfInBounds_toArray, List.set_cons_zero, List.set_cons_succ, i64_w, i32_w]
      rfl
    refine take_ (i := 8) (N := some 63) (v := ?_) (a' := ?_) #[true, true, true, true, true, true, true, true, true, false, false, false, false, false, false, false] rfl rfl (take_ofW HT_.out HW_.out (by kernel_rfl)) (fun _ _ _ h => h) (Or.inl ⟨by rfl, ?_⟩) hHeld ?_ ?_
    rotate_left
    · rintro w' ⟨s0, s1, s2, s3⟩
      go_simp
      first | done | with_reducible rfl
    rotate_left
    · simp only [Act.put, List.setIfInBounds_toArray, List.set_cons_zero, List.set_cons_succ, i64_w, i32_w]
      rfl
    refine take_ (i := 9) (N := some 64) (v := ?_) (a' := ?_) #[true, true, true, true, true, true, true, true, true, true, false, false, false, false, false, false] rfl rfl (take_ofW HT_.out HW_.out (by kernel_rfl)) (fun _ _ _ h => h) (Or.inl ⟨by rfl, ?_⟩) hHeld ?_ ?_
    rotate_left
    · rintro w' ⟨s0, s1, s2, s3⟩
      go_simp
      first | done | with_reducible rfl
    rotate_left
    · simp only [Act.put, List.setIfInBounds_toArray, List.set_cons_zero, List.set_cons_succ, i64_w, i32_w]
      rfl
    refine take_ (i := 10) (N := some 65) (v := ?_) (a' := ?_) #[true, true, true, true, true, true, true, true, true, true, true, false, false, false, false, false] rfl rfl (take_ofW HT_.out HW_.out (by kernel_rfl)) (fun _ _ _ h => h) (Or.inl ⟨by rfl, ?_⟩) hHeld ?_ ?_
    rotate_left
    · rintro w' ⟨s0, s1, s2, s3⟩
      go_simp
      first | done | with_reducible rfl
    rotate_left
    · simp only [Act.put, List.setIfInBounds_toArray, List.set_cons_zero, List.set_cons_succ, i64_w, i32_w]
      rfl
    refine one_ (i := 11) (N := some 66) #[true, true, true, true, true, true, true, true, true, true, true, true, false, false, false, false] rfl rfl (one_of HT_.out (by kernel_rfl)) (by decide) (fun K hK => ?_)
    refine value_ (w1 := ?_) (v := ?_) (by rfl) rfl ?_ ?_
    rotate_left 2
    · go_simp
      constructor
      · rfl
      · rfl
    refine hK.out _ _ ⟨pw_cell_below (below_alloc (below_drew (Below.refl W3.heap.size W3)) _) (show W3.cell? _ = _ from (blk_cell HG3.out 1).trans rfl), pw_cell_below (below_alloc (below_drew (Below.refl W3.heap.size W3)) _) (show W3.cell? _ = _ from (blk_cell HZ.out 0).trans rfl), pw_cell_below (below_alloc (below_drew (Below.refl W3.heap.size W3)) _) (show W3.cell? _ = _ from (blk_cell HZ.out 1).trans rfl), pw_cell_below (below_alloc (below_drew (Below.refl W3.heap.size W3)) _) (show W3.cell? _ = _ from (blk_cell HZ.out 2).trans rfl)⟩ (fun hHeld => ?_)
    clear hK K
    refine norm_ (a' := ?_) ?_ ?_
    rotate_left
    · show Act.put _ (some 66) _ = _
      simp only [Act.put, List.setIfInBounds_toArray, List.set_cons_zero, List.set_cons_succ, i64_w, i32_w]
      rfl
    have HBA := Aside0.mk (show Below W3.heap.size W3 (W3.alloc (Obj.cells #[.int .i64 t, .int .i64 (-1), .slice (some ⟨hk, 0, none⟩) 2 2] 27)).drew from below_drew1 (below_alloc (Below.refl _ _) _))
    have HTA := Kd.R_below (Kd.R_take (m := p) HT3.out (by rw [hlt]; omega)) HBA.out
    rw [List.take_left' hp] at HTA
    have HGA := Aside0.mk ((HBA.out.block _ (blk_lt HG3.out)).trans HG3.out)
    have HXA := Aside0.mk (Kd.R_below HX3.out HBA.out)
    have HBB := Aside0.mk (below_step HB3.out HBA.out)
    have HKA := Aside0.mk (Kd.R_below HKD.out HBA.out)
    have HNW := blk_drew (blk_new W3 (Obj.cells #[.int .i64 t, .int .i64 (-1), .slice (some ⟨hk, 0, none⟩) 2 2] 27))
    have hszA : (W3.alloc (Obj.cells #[.int .i64 t, .int .i64 (-1), .slice (some ⟨hk, 0, none⟩) 2 2] 27)).drew.heap.size = W3.heap.size + 1 := by show (W3.alloc (Obj.cells #[.int .i64 t, .int .i64 (-1), .slice (some ⟨hk, 0, none⟩) 2 2] 27)).heap.size = _; rw [World.size_alloc]
    obtain ⟨WA, hWA⟩ : ∃ WA, (W3.alloc (Obj.cells #[.int .i64 t, .int .i64 (-1), .slice (some ⟨hk, 0, none⟩) 2 2] 27)).drew = WA := ⟨_, rfl⟩
    rw [hWA] at HTA HGA HXA HBB HKA HNW hszA HBA ⊢
    clear hWA HT3 HX3 HB3 HKD q1 z0 z1 z2
    obtain ⟨h0, inner, hown, hrep⟩ := HTA
    obtain ⟨ti, hti, htz, hts, htb⟩ := tm_info
    obtain ⟨v', w', hrun, r1, r2⟩ := run_append_arg_grows (P := Try.prog) WA 25 25 27 ti (.agg #[.int .i64 0, .int .i64 0, .slice none 0 0]) 3 40 hu25 hti htz hts htb rfl (by decide) ⟨bt, 0, none⟩ p p inner (by have := hown.1; rw [hp] at this; exact this) (fun j u hj => by rw [Addr.add_lit, Nat.zero_add]; rw [hp] at hown; exact own_cells hown j u hj) ⟨W3.heap.size, 0, none⟩ 1 1 [.int .i64 t, .int .i64 (-1), .slice (some ⟨hk, 0, none⟩) 2 2] rfl (fun j u hj => by rw [Addr.add_lit, Nat.zero_add, blk_cell HNW j]; simpa using hj) (by omega) (by simp only [maxLen]; omega) (by omega)
    rw [hp1] at r1
    obtain ⟨v1, c1, rfl⟩ := own_slice r1
    have HBW := Aside0.mk (show Below WA.heap.size WA w' from ⟨r2.os, r2.tape, r2.output, r2.size, fun k hk => r2.block k hk (by simp)⟩)
    refine one_ (i := 12) (N := some 67) #[true, true, true, true, true, true, true, true, true, true, true, true, true, false, false, false] rfl rfl (one_of HT_.out (by kernel_rfl)) (by decide) (fun K hK => ?_)
    refine value_ (w1 := w') (v := .slice v1 p1 c1) (by rfl) rfl ?hrun ?_
    case hrun => simp [execOp, resolve, invoke, builtin, Act.eval, hrun, Result.andThen]
    refine hK.out _ _ ⟨pw_cell_below (below_step HBA.out HBW.out) (show W3.cell? _ = _ from (blk_cell HG3.out 1).trans rfl), pw_cell_below (below_step HBA.out HBW.out) (show W3.cell? _ = _ from (blk_cell HZ.out 0).trans rfl), pw_cell_below (below_step HBA.out HBW.out) (show W3.cell? _ = _ from (blk_cell HZ.out 1).trans rfl), pw_cell_below (below_step HBA.out HBW.out) (show W3.cell? _ = _ from (blk_cell HZ.out 2).trans rfl)⟩ (fun hHeld => ?_)
    clear hK K
    refine norm_ (a' := ?_) ?_ ?_
    rotate_left
    · show Act.put _ (some 67) _ = _
      simp only [Act.put, List.setIfInBounds_toArray, List.set_cons_zero, List.set_cons_succ, i64_w, i32_w]
      rfl
    refine take_ (i := 13) (N := some 68) (v := ?_) (a' := ?_) #[true, true, true, true, true, true, true, true, true, true, true, true, true, true, false, false] rfl rfl (take_ofW HT_.out HW_.out (by kernel_rfl)) (fun _ _ _ h => h) (Or.inl ⟨by rfl, ?_⟩) hHeld ?_ ?_
    rotate_left
    · rintro w' ⟨s0, s1, s2, s3⟩
      go_simp
      first | done | with_reducible rfl
    rotate_left
    · simp only [Act.put, List.setIfInBounds_toArray, List.set_cons_zero, List.set_cons_succ, i64_w, i32_w]
      rfl
    refine take_ (i := 14) (N := some 69) (v := ?_) (a' := ?_) #[true, true, true, true, true, true, true, true, true, true, true, true, true, true, true, false] rfl rfl (take_ofW HT_.out HW_.out (by kernel_rfl)) (fun _ _ _ h => h) (Or.inl ⟨by rfl, ?_⟩) hHeld ?_ ?_
    rotate_left
    · rintro w' ⟨s0, s1, s2, s3⟩
      go_simp
      first | done | with_reducible rfl
    rotate_left
    · simp only [Act.put, List.setIfInBounds_toArray, List.set_cons_zero, List.set_cons_succ, i64_w, i32_w]
      rfl
    have HGw := Aside0.mk ((HBW.out.block _ (blk_lt HGA.out)).trans HGA.out)
    have q1 : w'.cell? ⟨g, 1, none⟩ = some (.slice (some ⟨bt, 0, none⟩) nt ct) := (blk_cell HGw.out 1).trans rfl
    have hfz := blk_frozen HGw.out 1
    refine last_ (i := 15) (N := none) #[true, true, true, true, true, true, true, true, true, true, true, true, true, true, true, true] rfl rfl (one_of HT_.out (by kernel_rfl)) (by decide) (fun K hK => ?_)
    refine skip_ (w1 := ?_) (by rfl) rfl ?_ ?_
    rotate_left
    · go_simp
      rfl
    refine hK.out _ _ ?_
    clear hK K
    refine done_ (done_of HT_.out (by kernel_rfl)) ?_
    go_wp2_with fail
    go_end0
    refine ⟨rfl, .slice v1 p1 c1, .slice (some ⟨bx, 0, none⟩) m cx, blk_put HGw.out 1 _ rfl, hg0, ?_, ?_, ?_⟩
    · have hR := Kd.R_appended (d := k27) (e := 27) (base := w0.heap.size) (ok := fun k => k ≠ g ∧ k ≠ bx) (okp := fun k => (k ≠ g ∧ k ≠ bx) ∧ k ≠ bt) (W := WA) (w1 := w') (v := .slice (some ⟨bt, 0, none⟩) p ct) (v1 := .slice v1 p1 c1) (xs := ts) (p := ⟨t, -1, [a, b]⟩) (inner := inner) (cs := [.int .i64 t, .int .i64 (-1), .slice (some ⟨hk, 0, none⟩) 2 2]) h0 hrep (k27_mkM _ _ _ (⟨t, -1, [a, b]⟩ : S27) HKA.out) (fun k hk => ⟨hk.1, fun e => hk.2 (by simpa [Value.ownBlock] using e)⟩) (fun k hk => ⟨by have := blk_lt HGA.out; omega, by have := HBM.out.1; omega⟩) (by rw [hp, hp1]; exact own_weaken r1 (below_size HBB.out)) (r2.but _) (by
        rcases own_base' r1 with h | ⟨b_, h, hb_⟩
        · right
          rcases r1.2 with ⟨_, hz_⟩ | ⟨g', cap', cur, hv, hb, _⟩
          · exact absurd hz_ (by omega)
          · rw [hv]
            exact ⟨g', rfl, hb⟩
        · exact .inr ⟨b_, h, hb_⟩)
      refine Kd.R_mono (Kd.R_far (p := ⟨g, 1, none⟩) hR (fun k hk => hk.1) _) (fun k hk => ⟨hk.1, fun e => hk.2 (by simpa [Value.ownBlock] using e)⟩)
    · exact Kd.R_far (p := ⟨g, 1, none⟩) (Kd.R_below HXA.out HBW.out) (fun k hk => hk) _
    · exact below_set (below_step HBB.out HBW.out) hg0


theorem int_map : (Try.prog.info? 3).map (fun i => (i.zero, i.size, i.bytes)) = some (some (.int .i64 0), 1, 8) := by kernel_rfl
theorem tm_map : (Try.prog.info? 27).map (fun i => (i.zero, i.size, i.bytes)) = some (some (.agg #[.int .i64 0, .int .i64 0, .slice none 0 0]), 3, 40) := by kernel_rfl
def grp_T15 : Bool × List (List Nat × List Nat) := (true, [([], []), ([0], [0]), ([1], [1]), ([2], [2]), ([], []), ([4], [4]), ([5], [5]), ([3], [3]), ([], []), ([3, 8, 0, 1, 2, 3, 4, 5, 6, 7, 8], [3, 8]), ([9, 7, 0, 1, 2, 3, 4, 5, 6, 7, 8, 9], [7, 9]), ([10, 6, 9, 0, 1, 2, 3, 4, 5, 6, 7, 8, 9], [6, 10]), ([0, 0, 1, 2, 3, 4, 5, 6, 7, 8, 9], [0]), ([12, 0, 1, 2, 3, 4, 5, 6, 7, 8, 9], [12]), ([13, 9, 9, 0, 1, 2, 3, 4, 5, 6, 7, 8, 9], [9, 13])])
def grp_B15 : List Nat := [0, 1, 3, 7, 0, 16, 48, 15, 0, 511, 1023, 2047, 1023, 5119, 13311]
theorem grp_tab15 : rtab .any (opsOf Try.f8 15) = grp_T15 := by kernel_rfl
theorem grp_bits15 : waitsOk grp_T15.2 grp_B15 = true := by kernel_rfl
section
variable {P : Program} {ops : Array Oper} {Q : Exit → Act → World → Prop} {md : Region.Mode} {S : World → Prop} {ds : List Nat}
theorem two_last {i j : Nat} {Ni Nj : Option Tmp} {oi oj : Oper} {fuel : Nat} {l : Array Bool} {a : Act} {w : World} (li lj : Array Bool) (hi : ops[i]? = some oi) (hj : ops[j]? = some oj) (hNi : oi.dst = Ni) (hNj : oj.dst = Nj)
    (hc : (Region.ready md ops l == [i, j] && l.setIfInBounds i true == li && l.setIfInBounds j true == lj) = true) (hdi : i ∈ ds) (hdj : j ∈ ds)
    (h1 : ∀ K : Act → World → Prop, Shut (∀ a' w', wpAnyLast P md ops Q S ds fuel li a' w' → K a' w') → if Region.wanted oi (yielded ops a.tmps) = true then Oper.wp P oi a w K Q else K (a.put Ni undef) w)
    (h2 : ∀ K : Act → World → Prop, Shut (∀ a' w', wpAnyLast P md ops Q S ds fuel lj a' w' → K a' w') → if Region.wanted oj (yielded ops a.tmps) = true then Oper.wp P oj a w K Q else K (a.put Nj undef) w) :
    wpAnyLast P md ops Q S ds (fuel + 1) l a w := by
  subst hNi
  subst hNj
  simp only [Bool.and_eq_true, beq_iff_eq] at hc
  obtain ⟨⟨h3, h4⟩, h5⟩ := hc
  subst h4
  subst h5
  exact wpAnyLast_ready h3 (by simp) (AllReadyL.cons_last hi hdi (fun K hK => h1 K hK) (AllReadyL.cons_last hj hdj (fun K hK => h2 K hK) AllReadyL.nil))
end
def toS : Tm → S27
  | .leaf n => ⟨-1, n, []⟩
  | .node s l r => ⟨s, -1, [toS l, toS r]⟩
def lvsOf (k : Nat) : List ByteArray → Option (List (Int × Bool))
  | [] => some []
  | s :: r => (name_Level.f k s).bind fun x => (lvsOf k r).bind fun l => some (x :: l)
def lvF (L : List (Int × Bool)) (i : Nat) : Int × Bool := L.getD i (0, false)
def group_Group.f (k : Nat) (l0 : List ByteArray) : Option (Int × Int × List S27 × Bool) :=
  if l0.length ≤ 100000 then (lvsOf k l0).bind fun L => if (L.any fun x => decide (x.1 = 0)) = true then some (0, 0, [], false) else some ((toS (grp (lvF L) 0 l0.length)).f0, (toS (grp (lvF L) 0 l0.length)).f1, (toS (grp (lvF L) 0 l0.length)).f2, true) else none
theorem lvsOf_mono (k : Nat) : ∀ l, LeO (lvsOf k l) (lvsOf (k + 1) l)
  | [] => LeO.refl _
  | s :: r => LeO.bind (name_Level.mono s k) fun _ => LeO.bind (lvsOf_mono k r) fun _ => LeO.refl _
theorem group_Group.mono : ∀ a0 k, LeO (group_Group.f k a0) (group_Group.f (k + 1) a0) := by
  intro a0 k
  unfold group_Group.f
  exact LeO.ite (LeO.bind (lvsOf_mono k a0) fun _ => LeO.refl _) (LeO.refl _)
theorem lvsOf_len (k : Nat) : ∀ (l : List ByteArray) (L : List (Int × Bool)), lvsOf k l = some L → L.length = l.length ∧ ∀ i : Nat, i < l.length → name_Level.f k (rdOf ByteArray.empty l (i : Int)) = some (lvF L i)
  | [], L, h => by
    obtain rfl := Option.some.inj h
    exact ⟨rfl, fun i hi => by simp at hi⟩
  | s :: r, L, h => by
    unfold lvsOf at h
    obtain ⟨x, hx, h⟩ := Option.bind_eq_some_iff.1 h
    obtain ⟨l, hl, h⟩ := Option.bind_eq_some_iff.1 h
    obtain rfl := Option.some.inj h
    obtain ⟨h1, h2⟩ := lvsOf_len k r l hl
    refine ⟨by simp [h1], fun i hi => ?_⟩
    cases i with
    | zero => exact hx
    | succ i => exact h2 i (by simpa using hi)
/-- The stack's rows, the last one first. -/
def IsG (w0 W : World) (g : Nat) (A : Option Addr) (c n : Nat) (Ws : List Nat) (Ts : List Tm) : Prop := IsSt w0 W g A c n (Ts.reverse.map toS) (Ws.reverse.map fun (u : Nat) => (u : Int))
theorem IsG.below {w0 W W1 : World} {g : Nat} {A : Option Addr} {c n : Nat} {Ws : List Nat} {Ts : List Tm} (h : IsG w0 W g A c n Ws Ts) (hb : Below W.heap.size W W1) : IsG w0 W1 g A c n Ws Ts := IsSt.below h hb
theorem IsG.base {w0 W : World} {g : Nat} {A : Option Addr} {c n : Nat} {Ws : List Nat} {Ts : List Tm} (h : IsG w0 W g A c n Ws Ts) : Below w0.heap.size w0 W := by
  obtain ⟨_, _, _, _, _, _, hb⟩ := h
  exact hb
theorem IsG.apply {w0 W : World} {g : Nat} {A : Option Addr} {c n u : Nat} {Ws : List Nat} {a b : Tm} {Ts : List Tm} (h : IsG w0 W g A c n (u :: Ws) (b :: a :: Ts)) (hl : Ts.length ≤ 1000000) :
    Calls Try.prog 20 #[.pointer (some ⟨g, 0, none⟩)] W fun e w' => e = .returned (.tuple #[]) ∧ IsG w0 w' g A c n Ws (.node u a b :: Ts) := by
  have h1 : IsSt w0 W g A c n (Ts.reverse.map toS ++ [toS a, toS b]) ((Ws.reverse.map fun (u : Nat) => (u : Int)) ++ [(u : Int)]) := by
    unfold IsG at h
    simpa using h
  refine (stack_apply h1 (by simpa using hl)).mono fun e w' ⟨he, hi⟩ => ⟨he, ?_⟩
  unfold IsG
  simpa [toS] using hi
theorem IsG.stronger {w0 W : World} {g : Nat} {A : Option Addr} {c n u : Nat} {Ws : List Nat} {Ts : List Tm} (h : IsG w0 W g A c n (u :: Ws) Ts) (sg : List ByteArray) (hsl : sg.length = n) (hC : Kd.C Kd.string W A n sg) (hu : u < n) (x y : ByteArray) (hy : rdOf ByteArray.empty sg (u : Int) = y) (lv : Nat → Int × Bool) (i : Nat)
    (hA : ∀ W' : World, Calls Try.prog 18 #[.string y] W' fun e w' => e = .returned (.tuple #[.int .i64 (lv u).1, .bool (lv u).2]) ∧ Below W'.heap.size W' w')
    (hB : ∀ W' : World, Calls Try.prog 18 #[.string x] W' fun e w' => e = .returned (.tuple #[.int .i64 (lv i).1, .bool (lv i).2]) ∧ Below W'.heap.size W' w') :
    Calls Try.prog 19 #[.pointer (some ⟨g, 0, none⟩), .string x] W fun e w' => e = .returned (.bool (dispB lv u i)) ∧ Below W.heap.size W w' := by
  have h1 : IsSt w0 W g A c n (Ts.reverse.map toS) ((Ws.reverse.map fun (u : Nat) => (u : Int)) ++ [(u : Int)]) := by
    unfold IsG at h
    simpa using h
  have h2 := stack_stronger h1 sg hsl hC (by omega) (by omega) x y hy (lv u).1 (lv i).1 (lv u).2 (lv i).2 hA hB
  have e : dispB lv u i = (decide ((lv i).1 < (lv u).1) || (decide ((lv u).1 = (lv i).1) && !(lv i).2)) := by
    unfold dispB
    rw [decide_eq_decide.2 (show (lv i).1 = (lv u).1 ↔ (lv u).1 = (lv i).1 from eq_comm)]
  rw [e]
  exact h2
theorem leaf_lit {W : World} {base : Nat} {ok : Nat → Prop} (x y : Int) (hbase : base ≤ W.heap.size) (hfresh : ok W.heap.size) :
    Kd.R k27 27 (W.alloc (.cells #[.int .i64 x, .int .i64 y, .slice none 0 0] 27)) base ok (.slice (some ⟨W.heap.size, 0, none⟩) 1 1) [⟨x, y, []⟩] := by
  have ha : k27.M W base ok (⟨x, y, []⟩ : S27) [.int .i64 x, .int .i64 y, .slice none 0 0] := k27_mkM _ _ _ (⟨x, y, []⟩ : S27) (Kd.R_nil _ _ _ _ _)
  have hrep : Reps (k27.M W base ok) 3 [(⟨x, y, []⟩ : S27)] [.int .i64 x, .int .i64 y, .slice none 0 0] := (Reps.none _ 3).snoc ha rfl
  refine ⟨fun k hk => ?_, [.int .i64 x, .int .i64 y, .slice none 0 0], ?_, ?_⟩
  · have : W.heap.size = k := by simpa [Value.ownBlock] using hk
    subst this
    exact hfresh
  · have h2 := World.ownsRow_lit (base := base) (e := 27) (size := 3) W #[.int .i64 x, .int .i64 y, .slice none 0 0] 1 hbase (by simp [maxLen]) (by simp)
    exact h2
  · refine hrep.imp_ (fun p c hp => k27.M_mono (fun k hk => ⟨hk.1, fun he => ?_⟩) (Kd.M_below (k27.M_bound hp) (below_alloc (Below.refl _ _) _)))
    have h3 : k = W.heap.size := by simpa [Value.ownBlock] using he
    have := hk.2.2.1
    omega
/-- The last term, written over. -/
theorem leaf_put {W : World} {base : Nat} {ok : Nat → Prop} {b n1 cap p : Nat} {ts : List S27} {z : S27} (h : Kd.R k27 27 W base ok (.slice (some ⟨b, 0, none⟩) n1 cap) (ts ++ [z])) (hp : ts.length = p) (x y : Int) :
    Kd.R k27 27 (((W.setCell ⟨b, p * 3, none⟩ (.int .i64 x)).setCell ⟨b, p * 3 + 1, none⟩ (.int .i64 y)).setCell ⟨b, p * 3 + 2, none⟩ (.slice none 0 0)) base ok (.slice (some ⟨b, 0, none⟩) n1 cap) (ts ++ [⟨x, y, []⟩]) := by
  obtain ⟨h0, inner, hown, hrep⟩ := h
  have hlen : (ts ++ [z]).length = p + 1 := by simp [hp]
  rw [hlen] at hown
  obtain ⟨hil, hown⟩ : inner.length = (p + 1) * 3 ∧ _ := hown
  rcases hown with ⟨hv, _⟩ | ⟨g', cap', cur, hv, hb, hh, h1, h2, h3, h4⟩
  · cases hv
  injection hv with ha hn hc
  injection ha with ha
  injection ha with ha _ _
  subst ha
  have hcl : (p + 1) * 3 ≤ cur.toList.length := by
    have : cur.toList.length = cap' * 3 := by rw [Array.length_toList]; exact h3
    rw [this]
    exact Nat.mul_le_mul_right 3 h1
  have hmove : ∀ (k : Nat), k ≠ b → (((W.setCell ⟨b, p * 3, none⟩ (.int .i64 x)).setCell ⟨b, p * 3 + 1, none⟩ (.int .i64 y)).setCell ⟨b, p * 3 + 2, none⟩ (.slice none 0 0)).heap[k]? = W.heap[k]? := fun k hk =>
    (Below.heap_setCell _ ⟨b, p * 3 + 2, none⟩ _ k hk).trans ((Below.heap_setCell _ ⟨b, p * 3 + 1, none⟩ _ k hk).trans (Below.heap_setCell _ ⟨b, p * 3, none⟩ _ k hk))
  have hrt : Reps (k27.M W base (fun k => ok k ∧ some k ≠ (Value.slice (some ⟨b, 0, none⟩) n1 cap).ownBlock)) 3 ts (inner.take (p * 3)) := by
    have h := Kd.reps_take (m := p) hrep (by rw [hlen]; omega)
    rw [List.take_left' hp] at h
    exact h
  have hnew := (hrt.imp_ (fun q c hq => k27.M_move (w1 := ((W.setCell ⟨b, p * 3, none⟩ (.int .i64 x)).setCell ⟨b, p * 3 + 1, none⟩ (.int .i64 y)).setCell ⟨b, p * 3 + 2, none⟩ (.slice none 0 0)) (fun k hk => hmove k (fun e => hk.2 (by rw [e]; simp [Value.ownBlock]))) hq)).snoc (k27_mkM _ _ _ (⟨x, y, []⟩ : S27) (Kd.R_nil _ _ _ _ _)) rfl
  refine ⟨h0, _, ⟨?_, .inr ⟨b, cap', ((cur.setIfInBounds (p * 3) (.int .i64 x)).setIfInBounds (p * 3 + 1) (.int .i64 y)).setIfInBounds (p * 3 + 2) (.slice none 0 0), ?_, hb, blk_put (blk_put (blk_put hh (p * 3) (.int .i64 x) rfl) (p * 3 + 1) (.int .i64 y) rfl) (p * 3 + 2) (.slice none 0 0) rfl, ?_, h2, ?_, ?_⟩⟩, hnew⟩
  · show (inner.take (p * 3) ++ [_, _, _]).length = _ * 3
    rw [List.length_append, List.length_take, hil, show (ts ++ [(⟨x, y, []⟩ : S27)]).length = p + 1 by simp [hp]]
    simp
    omega
  · rw [hn, hc]
    simp [hp]
  · simp [hp]
    exact h1
  · simpa using h3
  · have := set3_take cur.toList p (.int .i64 x) (.int .i64 y) (.slice none 0 0) hcl
    show List.take (_ * 3) _ = _
    rw [show (ts ++ [(⟨x, y, []⟩ : S27)]).length = p + 1 by simp [hp]]
    rw [Array.toList_setIfInBounds, Array.toList_setIfInBounds, Array.toList_setIfInBounds, this, ← h4, List.take_take]
    show _ = List.take (min (p * 3) ((p + 1) * 3)) _ ++ _
    rw [Nat.min_eq_left (show p * 3 ≤ (p + 1) * 3 by omega)]
set_option maxHeartbeats 4000000 in
set_option maxRecDepth 100000 in
theorem stack_weak {w0 W : World} {g : Nat} {A : Option Addr} {c n : Nat} {ts : List S27} (hI : IsSt w0 W g A c n ts []) (x : ByteArray) :
    Calls Try.prog 19 #[.pointer (some ⟨g, 0, none⟩), .string x] W fun e w' => e = .returned (.bool false) ∧ Below W.heap.size W w' := by
  have hu38 := Try.underlying38
  have hu46 := Try.underlying46
  obtain ⟨vT, vX, hg, hg0, hT, hX, hb0⟩ := hI
  obtain ⟨AX, cX, rfl⟩ := Kd.R_slice hX
  have q2 : W.cell? ⟨g, 2, none⟩ = some (.slice AX ([] : List Int).length cX) := (blk_cell hg 2).trans rfl
  clear hT hX hg hb0
  have HB := Aside0.mk (Below.refl W.heap.size W)
  go_enter Try.func19, Try.ntmps19
  go_wp2_with fail
  go_ret
  exact ⟨rfl, HB.out⟩
set_option maxHeartbeats 8000000 in
set_option maxRecDepth 100000 in
theorem group_Group.calls (k : Nat) (A0 : Option Addr) (c0 : Nat) (l0 : List ByteArray) (r1 r2 : Int) (r3 : List S27) (r4 : Bool) (w : World) (hr0 : Kd.C Kd.string w A0 l0.length l0) (hc0 : l0.length ≤ c0) (h : group_Group.f k l0 = some (r1, r2, r3, r4)) :
    Calls Try.prog 8 #[.slice A0 l0.length c0] w fun e w' => ∃ v2_ : Value, e = .returned (.tuple #[.agg #[.int .i64 r1, .int .i64 r2, v2_], .bool r4]) ∧ Kd.R k27 27 w' w.heap.size (fun _ => True) v2_ r3 ∧ Below w.heap.size w w' := by
  have hu38 := Try.underlying38
  have hu25 := Try.underlying25
  have hu22 := Try.underlying22
  have hu27 := Try.underlying27
  have hu46 := Try.underlying46
  unfold group_Group.f at h
  by_cases hsz : l0.length ≤ 100000
  case neg => rw [if_neg hsz] at h; cases h
  rw [if_pos hsz] at h
  obtain ⟨L, hL, h⟩ := Option.bind_eq_some_iff.1 h
  obtain ⟨hLl, hLv⟩ := lvsOf_len k l0 L hL
  clear hL
  obtain ⟨n, hn⟩ : ∃ n, l0.length = n := ⟨_, rfl⟩
  rw [hn] at hsz hLl hLv hr0 hc0 h ⊢
  have HN := Lib.hid hn
  have HC0 := Aside0.mk hr0
  have HLV := Aside0.mk (fun (i : Nat) (hi : i < n) => show ∀ W' : World, Calls Try.prog 18 #[.string (rdOf ByteArray.empty l0 (i : Int))] W' fun e w' => e = .returned (.tuple #[.int .i64 (lvF L i).1, .bool (lvF L i).2]) ∧ Below W'.heap.size W' w' from fun W' => name_Level.calls k _ (lvF L i).1 (lvF L i).2 W' (hLv i hi))
  have HLL := Lib.hid hLl
  have H := Lib.hid h
  have HCC := Lib.hid hc0
  clear hLv hr0 hLl hn h hc0
  have HB0 := Aside0.mk (below_alloc (Below.refl w.heap.size w) (.cells #[.int .i64 0, .int .i64 0, .slice none 0 0] 27))
  have HZ0 := Aside0.mk (blk_new w (.cells #[.int .i64 0, .int .i64 0, .slice none 0 0] 27))
  go_enter Try.func8, Try.ntmps8
  go_wp2_with fail
  go_loopg [5, 6, 7, 13] n (fun gg _ _ _ s13 wr => ∃ j : Nat, s13 = .int .i64 j ∧ j ≤ n ∧ n - j ≤ gg ∧ Hid (∀ i, i < j → (lvF L i).1 ≠ 0) ∧ Aside0 (Below w.heap.size w wr) ∧ Aside0 (wr.heap[w.heap.size]? = some (.cells #[.int .i64 0, .int .i64 0, .slice none 0 0] 27 (0, 0))))
  case atStart => exact ⟨0, rfl, by omega, by omega, Lib.hid (fun i hi => by omega), HB0, HZ0⟩
  case round =>
    clear HB0 HZ0
    obtain ⟨j, rfl, hj, hgj, HNZ, HB, HZ⟩ := hrel
    by_cases hlt : j < n
    · have hltz : (j : Int) < (n : Int) := by omega
      have hj0 : (0 : Int) ≤ (j : Int) := by omega
      obtain ⟨adS, eS, hs0⟩ := Kd.at_string (Kd.C_below HC0.out HB.out) (j : Int) hj0 hltz
      cases eS
      rw [Int.toNat_natCast] at hs0
      have HX := Aside0.mk (HLV.out j hlt)
      obtain ⟨x, hx⟩ : ∃ x, rdOf ByteArray.empty l0 (j : Int) = x := ⟨_, rfl⟩
      rw [hx] at HX hs0
      clear hx
      obtain ⟨ln, lr⟩ : ∃ y : Int × Bool, lvF L j = y := ⟨_, rfl⟩
      obtain ⟨ln, lb⟩ := ln
      rw [lr] at HX
      dsimp only at HX
      go_wp2_with fail
      refine (HX.out wr).mono ?_
      rintro e w2 ⟨rfl, hb⟩
      have HB2 := Aside0.mk (below_step HB.out hb)
      have HZ2 := Aside0.mk ((hb.block _ (blk_lt HZ.out)).trans HZ.out)
      clear hb HX
      by_cases h0 : ln = 0
      · subst h0
        have hany : (L.any fun x => decide (x.1 = 0)) = true := by
          rw [List.any_eq_true]
          refine ⟨lvF L j, ?_, by rw [lr]; rfl⟩
          unfold lvF
          rw [List.getD_eq_getElem?_getD, List.getElem?_eq_getElem (by rw [HLL.out]; exact hlt)]
          exact List.getElem_mem _
        have hh := H.out
        rw [if_pos hany] at hh
        simp only [Option.some.injEq, Prod.mk.injEq] at hh
        obtain ⟨rfl, rfl, rfl, rfl⟩ := hh
        have z0 : w2.cell? ⟨w.heap.size, 0, none⟩ = some (.int .i64 0) := (blk_cell HZ2.out 0).trans rfl
        have z1 : w2.cell? ⟨w.heap.size, 1, none⟩ = some (.int .i64 0) := (blk_cell HZ2.out 1).trans rfl
        have z2 : w2.cell? ⟨w.heap.size, 2, none⟩ = some (.slice none 0 0) := (blk_cell HZ2.out 2).trans rfl
        have f0 := blk_frozen HZ2.out 0
        have f1 := blk_frozen HZ2.out 1
        have f2 := blk_frozen HZ2.out 2
        go_wp2_with fail
        refine bodyPost_ret (results_ct rfl _ _ w.heap.size 27 #[.int .i64 0, .int .i64 0, .slice none 0 0] (0, 0) _ rfl (blk_put (blk_put (blk_put HZ2.out 0 _ rfl) 1 _ rfl) 2 _ rfl) hu27 rfl (by kernel_rfl)) rfl ?_
        exact ⟨_, rfl, Kd.R_nil _ _ _ _ _, below_set (below_set (below_set HB2.out (Nat.le_refl _)) (Nat.le_refl _)) (Nat.le_refl _)⟩
      · have h0b : (ln == 0) = false := beq_eq_false_iff_ne.2 h0
        have HN2 := Lib.hid (show ∀ i, i < j + 1 → (lvF L i).1 ≠ 0 from fun i hi => by
          rcases Nat.lt_or_ge i j with h | h
          · exact HNZ.out i h
          · rw [show i = j by omega, lr]
            exact h0)
        clear HNZ lr
        go_wp2_with fail
        go_roundg (n - (j + 1))
        case measure => omega
        case rel => exact ⟨j + 1, by go_num, by omega, Nat.le_refl _, HN2, HB2, HZ2⟩
    · have hltz : ¬ (j : Int) < (n : Int) := by omega
      obtain rfl : j = n := by omega
      clear hgj hj hlt
      go_wp2_with fail
      obtain ⟨wb, rfl⟩ : ∃ wb, wb = wr := ⟨_, rfl⟩
      have hno : (L.any fun x => decide (x.1 = 0)) = true → False := by
        intro ha
        obtain ⟨x, hx, h0⟩ := List.any_eq_true.1 ha
        obtain ⟨i, hi, rfl⟩ := List.getElem_of_mem hx
        have := HNZ.out i (by rw [← HLL.out]; exact hi)
        unfold lvF at this
        rw [List.getD_eq_getElem?_getD, List.getElem?_eq_getElem hi] at this
        exact this (of_decide_eq_true h0)
      have hh := H.out
      rw [if_neg hno] at hh
      simp only [Option.some.injEq, Prod.mk.injEq] at hh
      have HRES := Lib.hid hh
      clear hh hno H HNZ
      obtain ⟨g, hg⟩ : ∃ g, wb.heap.size + 1 = g := ⟨_, rfl⟩
      have HG0 := Aside0.mk (show IsG wb ((wb.alloc (.cells #[.int .i64 (-1), .int .i64 0, .slice none 0 0] 27)).alloc (.cells #[.slice A0 j c0, .slice (some ⟨wb.heap.size, 0, none⟩) 1 1, .slice none 0 0] 46)) g A0 c0 j (stG (lvF L) 0).1 (stG (lvF L) 0).2 from by
        refine ⟨.slice (some ⟨wb.heap.size, 0, none⟩) 1 1, .slice none 0 0, ?_, by omega, ?_, Kd.R_nil _ _ _ _ _, below_alloc (below_alloc (Below.refl _ _) _) _⟩
        · have hh := blk_new (wb.alloc (.cells #[.int .i64 (-1), .int .i64 0, .slice none 0 0] 27)) (.cells #[.slice A0 j c0, .slice (some ⟨wb.heap.size, 0, none⟩) 1 1, .slice none 0 0] 46)
          rw [World.size_alloc, hg] at hh
          exact hh
        · exact Kd.R_alloc (leaf_lit (-1) 0 (Nat.le_refl _) ⟨by omega, by simp [Value.ownBlock]⟩) _)
      have HBb := HB
      have HZb := HZ
      rw [hg]
      clear hg HB HZ
      go_loopg [9, 10, 33] j (fun gg _ _ s33 wr => ∃ i : Nat, s33 = .int .i64 i ∧ i ≤ j ∧ j - i ≤ gg ∧ Aside0 (IsG wb wr g A0 c0 j (stG (lvF L) i).1 (stG (lvF L) i).2))
      case atStart => exact ⟨0, rfl, by omega, by omega, HG0⟩
      case round =>
        clear HG0
        obtain ⟨i, rfl, hi, hgi, HG⟩ := hrel
        have HBr := Aside0.mk HG.out.base
        by_cases hlt : i < j
        · have hltz : (i : Int) < (j : Int) := by omega
          have hj0 : (0 : Int) ≤ (i : Int) := by omega
          obtain ⟨adS, eS, hs0⟩ := Kd.at_string (Kd.C_below HC0.out (below_step HBb.out HBr.out)) (i : Int) hj0 hltz
          cases eS
          rw [Int.toNat_natCast] at hs0
          obtain ⟨x, hx⟩ : ∃ x, rdOf ByteArray.empty l0 (i : Int) = x := ⟨_, rfl⟩
          rw [hx] at hs0
          have HXI := Lib.hid hx
          clear hx
          have HOK := Lib.hid (stG_ok (lvF L) j i hi).1
          go_wp2
          refine scope_fuel 0 (fun kq a' wz => ∃ (Ws : List Nat) (Ts : List Tm) (v38 v39 v40 v41 v42 : Value), kq = Ws.length ∧ Aside0 (IsG wb wz g (some adS) c0 j Ws Ts) ∧ Hid (OkG j Ws Ts) ∧ Hid (popG (lvF L) i Ws Ts = popG (lvF L) i (stG (lvF L) i).1 (stG (lvF L) i).2) ∧ a' = { tmps := #[.slice (some adS) j c0, undef, .pointer (some ⟨w.heap.size, 0, none⟩), u3, undef, u5, u6, u7, .pointer (some ⟨g, 0, none⟩), .int .i64 i, .string x, .slice (some adS) j c0, .int .i64 j, .int .i64 j, .bool false, u15, u16, u17, u18, u19, u20, u21, u22, u23, u24, u25, .slice (some adS) j c0, .agg #[.int .i64 (-1), .int .i64 0, .slice none 0 0], .slice (some ⟨wb.heap.size, 0, none⟩) 1 1, .agg #[.slice (some adS) j c0, .slice (some ⟨wb.heap.size, 0, none⟩) 1 1, .slice none 0 0], .pointer (some ⟨g, 0, none⟩), .slice (some adS) j c0, .int .i64 j, .int .i64 i, .bool true, .int .i64 i, .pointer (some (adS.add i)), .string x, v38, v39, v40, v41, v42, u43, u44, u45, u46, u47, u48, u49, u50, u51, u52, u53, u54, u55, u56, u57, u58, u59, u60, u61, u62, u63, u64, u65, u66, undef, undef, undef, undef, undef, undef, undef, undef, undef, undef, undef, undef, undef, undef], defers := [] }) rfl ?_ ?_
          · intro HREST
            go_wp2_with fail
            refine wp_label ?_
            rename_i hgo
            refine hgo _ _ ?_
            exact HREST.out _ _ _ ⟨_, _, _, _, _, _, _, rfl, HG, HOK, Lib.hid rfl, rfl⟩
          · clear HG HOK HBr
            rintro kq a' wz ⟨Ws, Ts, v38, v39, v40, v41, v42, rfl, HG, HOK, HPOP, rfl⟩
            have HBz := Aside0.mk (below_step HBb.out HG.out.base)
            obtain ⟨sb, HS, hsb⟩ : ∃ sb, Aside0 (Calls Try.prog 19 #[.pointer (some ⟨g, 0, none⟩), .string x] wz fun e w' => e = .returned (.bool sb) ∧ Below wz.heap.size wz w') ∧ (sb = true → ∃ u Ws' b a Ts', Ws = u :: Ws' ∧ Ts = b :: a :: Ts' ∧ dispB (lvF L) u i = true) ∧ (sb = false → popG (lvF L) i Ws Ts = (Ws, Ts)) := by
              cases Ws with
              | nil => exact ⟨false, ⟨stack_weak HG.out x⟩, (fun h => (by cases h)), fun _ => popG_nil _ _ _⟩
              | cons u Ws =>
                obtain ⟨b, a, Ts, rfl⟩ := HOK.out.two
                have hu : u < j := HOK.out.2.1 u (List.mem_cons_self ..)
                have hA := HLV.out u hu
                have hB := HLV.out i hlt
                rw [HXI.out] at hB
                refine ⟨dispB (lvF L) u i, ⟨IsG.stronger HG.out l0 HN.out (Kd.C_below HC0.out HBz.out) hu x _ rfl (lvF L) i hA hB⟩, fun h => ⟨u, Ws, b, a, Ts, rfl, rfl, h⟩, fun h => popG_stop h⟩
            have HSB := Lib.hid hsb
            clear hsb
            go_wp2_with fail
            refine HS.out.mono ?_
            rintro e w3 ⟨rfl, hb⟩
            have HG3 := Aside0.mk (HG.out.below hb)
            clear hb HS HG
            cases sb with
            | true =>
              obtain ⟨u, Ws', b, a, Ts', hW, hT, hd⟩ := HSB.out.1 rfl
              subst hW
              subst hT
              have hl : Ts'.length ≤ 1000000 := by
                have h1 := HOK.out.1
                have h2 := HOK.out.2.2
                simp only [List.length_cons] at h1 h2
                omega
              have HAP := Aside0.mk (IsG.apply HG3.out hl)
              have HP2 := Lib.hid ((popG_go hd).symm.trans HPOP.out)
              have HO2 := Lib.hid HOK.out.pop
              clear HSB hd hl HPOP HOK HG3
              go_wp2_with fail
              refine HAP.out.mono ?_
              rintro e w4 ⟨rfl, hG4⟩
              have HG4 := Aside0.mk hG4
              clear hG4 HAP
              go_wp2_with fail
              refine wp_goto ?_
              exact ⟨rfl, Ws'.length, by simp, _, _, _, _, _, _, _, rfl, HG4, HO2, HP2, rfl⟩
            | false =>
              have HST := Lib.hid (show stG (lvF L) (i + 1) = (i :: Ws, .leaf (i + 1) :: Ts) by rw [stG_succ, ← HPOP.out, HSB.out.2 rfl])
              clear HSB HPOP
              have hlt2 : Ts.length = Ws.length + 1 := HOK.out.1
              have hlw : Ws.length ≤ j := HOK.out.2.2
              obtain ⟨vT, vX, hg, hg0, hT, hX, hb0⟩ := HG3.out
              obtain ⟨nt, hnt⟩ : ∃ nt, (Ts.reverse.map toS).length = nt := ⟨_, rfl⟩
              have hntl : nt = Ts.length := by rw [← hnt]; simp
              obtain ⟨bt, ct, hv, hbt, hbtl, -⟩ := Kd.R_form hT (by rw [hnt]; omega)
              rw [hnt] at hv
              subst hv
              obtain ⟨xs, hxs⟩ : ∃ xs, (Ws.reverse.map fun (u : Nat) => (u : Int)) = xs := ⟨_, rfl⟩
              have hxl : xs.length = Ws.length := by rw [← hxs]; simp
              obtain ⟨ts, hts⟩ : ∃ ts, Ts.reverse.map toS = ts := ⟨_, rfl⟩
              rw [hxs] at hX
              rw [hts] at hT hnt
              have HXS := Lib.hid hxs
              have HTS := Lib.hid hts
              clear hxs hts
              obtain ⟨AX, cX, rfl⟩ := Kd.R_slice hX
              obtain ⟨nX, hnX⟩ : ∃ nX, xs.length = nX := ⟨_, rfl⟩
              rw [hnX] at hg hT hX hxl
              have HXL := Lib.hid (show xs.length = nX ∧ nX ≤ j from ⟨hnX, by omega⟩)
              have HNT := Lib.hid (show ts.length = nt ∧ nt ≤ j + 1 from ⟨hnt, by omega⟩)
              clear hnX hxl hnt hntl hlt2 hlw
              have q2 : w3.cell? ⟨g, 2, none⟩ = some (.slice AX nX cX) := (blk_cell hg 2).trans rfl
              have HGG := Aside0.mk hg
              have HT3 := Aside0.mk hT
              have HX3 := Aside0.mk hX
              have HB3 := Aside0.mk hb0
              clear hg hT hX hb0 HG3 HOK
              go_wp2_with (at_builtin; go_loud (refine Kd.R_append (Kd.int .i64) (w0 := wb) wb.heap.size rfl _ _ 38 3 (.int .i64 0) 8 rfl hu38 int_map rfl (by decide) (by decide) (.slice AX nX cX) xs (i : Int) [.int .i64 i] (fun k => k ≠ g) (fun _ => False) rfl rfl rfl (fun _ h_ => h_.elim) (fun k hk => by have := blk_lt HGG.out; omega) HX3.out HB3.out HB3.out.size ?hl ?hk))
              case hl => have := HXL.out; omega
              case hk =>
                intro v1 w4 ho hb hgr hat
                have HT4 := Aside0.mk (Kd.R_after HT3.out hgr hat)
                have HG4 := Aside0.mk (blk_grown HGG.out hgr (fun e => absurd rfl (HX3.out.1 g e.symm)))
                have HX4 := Aside0.mk ho
                have HB4 := Aside0.mk hb
                have hbt4 : bt < w4.heap.size := Nat.lt_of_lt_of_le hbtl hgr.size
                clear ho hb hgr hat HT3 HX3 HGG HB3 q2
                obtain ⟨A1, c1, rfl⟩ := Kd.R_slice HX4.out
                obtain ⟨n1, hn1⟩ : ∃ n1, (xs ++ [(i : Int)]).length = n1 := ⟨_, rfl⟩
                rw [hn1] at HT4 HX4 ⊢
                have q2 : w4.cell? ⟨g, 2, none⟩ = some (.slice AX nX cX) := (blk_cell HG4.out 2).trans rfl
                have hfz := blk_frozen HG4.out 2
                go_wp2_with fail
                have HG5 := Aside0.mk (show (w4.setCell ⟨g, 2, none⟩ (.slice A1 n1 c1)).heap[g]? = some (.cells #[.slice (some adS) j c0, .slice (some ⟨bt, 0, none⟩) nt ct, .slice A1 n1 c1] 46 (0, 0)) from blk_put HG4.out 2 _ rfl)
                have HT5 := Aside0.mk (Kd.R_far (p := ⟨g, 2, none⟩) HT4.out (fun k hk => hk.1) (.slice A1 n1 c1))
                have HX5 := Aside0.mk (Kd.R_far (p := ⟨g, 2, none⟩) HX4.out (fun k hk => hk) (.slice A1 n1 c1))
                have HB5 := Aside0.mk (below_set (j := 2) (v := .slice A1 n1 c1) HB4.out hg0)
                have hbt5 : bt < (w4.setCell ⟨g, 2, none⟩ (.slice A1 n1 c1)).heap.size := by simpa using hbt4
                clear HG4 HT4 HX4 HB4 q2 hfz hbt4
                generalize w4.setCell ⟨g, 2, none⟩ (.slice A1 n1 c1) = w5 at *
                obtain ⟨i1, hi1⟩ : ∃ i1 : Int, (i : Int) + 1 = i1 := ⟨_, rfl⟩
                have hiw : wrap64 ((i : Int) + 1) = i1 := by rw [← hi1]; unfold wrap64; omega
                have hiw' : IntKind.i64.wrap ((i : Int) + 1) = i1 := by rw [i64_w]; exact hiw
                have HI1 := Lib.hid hi1
                clear hi1
                have hz0 : (0 : Int) ≤ (nt : Int) := by omega
                have q1 : w5.drew.cell? ⟨g, 1, none⟩ = some (.slice (some ⟨bt, 0, none⟩) nt ct) := (blk_cell HG5.out 1).trans rfl
                refine start_ (n := 15) (S := (fun w' => w'.cell? ⟨g, 1, none⟩ = some (.slice (some ⟨bt, 0, none⟩) nt ct))) (ds := [11, 14]) #[false, false, false, false, false, false, false, false, false, false, false, false, false, false, false] (by kernel_rfl) rfl rfl q1 (fun hHeld => ?_)
                refine with_tabW grp_tab15 grp_bits15 (fun HT_ HW_ => ?_)
                have HG6 := Aside0.mk (blk_drew HG5.out)
                have HT6 := Aside0.mk (Kd.R_drew HT5.out)
                have HX6 := Aside0.mk (Kd.R_drew HX5.out)
                have HB6 := Aside0.mk (below_drew1 HB5.out)
                clear HG5 HT5 HX5 HB5 hbt5 q1
                generalize w5.drew = w6 at HG6 HT6 HX6 HB6 hHeld ⊢
                refine take_ (i := 0) (N := some 53) (v := ?_) (a' := ?_) #[true, false, false, false, false, false, false, false, false, false, false, false, false, false, false] rfl rfl (take_ofW HT_.out HW_.out (by kernel_rfl)) (fun _ _ _ h => h) (Or.inl ⟨by rfl, ?_⟩) hHeld ?_ ?_
                rotate_left
                · rintro w' s0
                  go_simp
                  first | done | with_reducible rfl
                rotate_left
                · simp only [Act.put, List.setIfInBounds_toArray, List.set_cons_zero, List.set_cons_succ, i64_w, i32_w]
                  rfl
                refine take_ (i := 1) (N := some 54) (v := ?_) (a' := ?_) #[true, true, false, false, false, false, false, false, false, false, false, false, false, false, false] rfl rfl (take_ofW HT_.out HW_.out (by kernel_rfl)) (fun _ _ _ h => h) (Or.inl ⟨by rfl, ?_⟩) hHeld ?_ ?_
                rotate_left
                · rintro w' s0
                  go_simp
                  first | done | with_reducible rfl
                rotate_left
                · simp only [Act.put, List.setIfInBounds_toArray, List.set_cons_zero, List.set_cons_succ, i64_w, i32_w]
                  rfl
                refine take_ (i := 2) (N := some 55) (v := ?_) (a' := ?_) #[true, true, true, false, false, false, false, false, false, false, false, false, false, false, false] rfl rfl (take_ofW HT_.out HW_.out (by kernel_rfl)) (fun _ _ _ h => h) (Or.inl ⟨by rfl, ?_⟩) hHeld ?_ ?_
                rotate_left
                · rintro w' s0
                  go_simp
                  first | done | with_reducible rfl
                rotate_left
                · simp only [Act.put, List.setIfInBounds_toArray, List.set_cons_zero, List.set_cons_succ, i64_w, i32_w]
                  rfl
                refine take_ (i := 3) (N := some 56) (v := ?_) (a' := ?_) #[true, true, true, true, false, false, false, false, false, false, false, false, false, false, false] rfl rfl (take_ofW HT_.out HW_.out (by kernel_rfl)) (fun _ _ _ h => h) (Or.inl ⟨by rfl, ?_⟩) hHeld ?_ ?_
                rotate_left
                · rintro w' s0
                  go_simp
                  first | done | with_reducible rfl
                rotate_left
                · simp only [Act.put, List.setIfInBounds_toArray, List.set_cons_zero, List.set_cons_succ, i64_w, i32_w]
                  rfl
                refine take_ (i := 4) (N := some 57) (v := ?_) (a' := ?_) #[true, true, true, true, true, false, false, false, false, false, false, false, false, false, false] rfl rfl (take_ofW HT_.out HW_.out (by kernel_rfl)) (fun _ _ _ h => h) (Or.inl ⟨by rfl, ?_⟩) hHeld ?_ ?_
                rotate_left
                · rintro w' s0
                  go_simp
                  first | done | with_reducible rfl
                rotate_left
                · simp only [Act.put, List.setIfInBounds_toArray, List.set_cons_zero, List.set_cons_succ, i64_w, i32_w]
                  rfl
                refine take_ (i := 5) (N := some 58) (v := ?_) (a' := ?_) #[true, true, true, true, true, true, false, false, false, false, false, false, false, false, false] rfl rfl (take_ofW HT_.out HW_.out (by kernel_rfl)) (fun _ _ _ h => h) (Or.inl ⟨by rfl, ?_⟩) hHeld ?_ ?_
                rotate_left
                · rintro w' s0
                  go_simp
                  first | done | with_reducible rfl
                rotate_left
                · simp only [Act.put, List.setIfInBounds_toArray, List.set_cons_zero, List.set_cons_succ, i64_w, i32_w]
                  rfl
                refine take_ (i := 6) (N := some 59) (v := ?_) (a' := ?_) #[true, true, true, true, true, true, true, false, false, false, false, false, false, false, false] rfl rfl (take_ofW HT_.out HW_.out (by kernel_rfl)) (fun _ _ _ h => h) (Or.inl ⟨by rfl, ?_⟩) hHeld ?_ ?_
                rotate_left
                · rintro w' s0
                  go_simp
                  first | done | with_reducible rfl
                rotate_left
                · simp only [Act.put, List.setIfInBounds_toArray, List.set_cons_zero, List.set_cons_succ, i64_w, i32_w]
                  rfl
                refine take_ (i := 7) (N := some 60) (v := ?_) (a' := ?_) #[true, true, true, true, true, true, true, true, false, false, false, false, false, false, false] rfl rfl (take_ofW HT_.out HW_.out (by kernel_rfl)) (fun _ _ _ h => h) (Or.inl ⟨by rfl, ?_⟩) hHeld ?_ ?_
                rotate_left
                · rintro w' s0
                  go_simp
                  first | done | with_reducible rfl
                rotate_left
                · simp only [Act.put, List.setIfInBounds_toArray, List.set_cons_zero, List.set_cons_succ, i64_w, i32_w]
                  rfl
                refine one_ (i := 8) (N := some 61) #[true, true, true, true, true, true, true, true, true, false, false, false, false, false, false] rfl rfl (one_of HT_.out (by kernel_rfl)) (by decide) (fun K hK => ?_)
                refine value_ (w1 := ?_) (v := ?_) (by rfl) rfl ?_ ?_
                rotate_left 2
                · go_simp
                  constructor
                  · rfl
                  · rfl
                refine hK.out _ _ ((blk_cell (blk_alloc HG6.out _) 1).trans rfl) (fun hHeld => ?_)
                clear hK K
                refine norm_ (a' := ?_) ?_ ?_
                rotate_left
                · show Act.put _ (some 61) _ = _
                  simp only [Act.put, List.setIfInBounds_toArray, List.set_cons_zero, List.set_cons_succ, i64_w, i32_w]
                  rfl
                have HXlt : ∀ k, (Value.slice A1 n1 c1).ownBlock = some k → k < w6.heap.size := by
                  obtain ⟨_, inner, ho, _⟩ := HX6.out
                  exact own_lt ho
                obtain ⟨hbg, hbX⟩ := HT6.out.1 bt rfl
                refine one_ (i := 9) (N := some 62) #[true, true, true, true, true, true, true, true, true, true, false, false, false, false, false] rfl rfl (one_of HT_.out (by kernel_rfl)) (by decide) (fun K hK => ?_)
                refine Kd.R_append_step k27 (w0 := wb) wb.heap.size (by rfl) (.tmp 56) (.tmp 61) 25 27 (.agg #[.int .i64 0, .int .i64 0, .slice none 0 0]) 40 rfl hu25 tm_map rfl (by decide) (by omega) (.slice (some ⟨bt, 0, none⟩) nt ct) ts (⟨0, 0, []⟩ : S27) [.int .i64 0, .int .i64 0, .slice none 0 0] (fun k => k ≠ g ∧ some k ≠ (Value.slice A1 n1 c1).ownBlock) (fun _ => False) rfl rfl (k27_mkM _ _ _ (⟨0, 0, []⟩ : S27) (Kd.R_nil _ _ _ _ _)) (fun _ h_ => h_.elim) (fun k hk => ⟨by have := blk_lt HG6.out; omega, fun e => by have := HXlt k e.symm; omega⟩) HT6.out HB6.out HB6.out.size (by have := HNT.out; omega) ?_
                intro v2 w7 ho hb hgr hat
                have HG7 := Aside0.mk (blk_grown HG6.out hgr (by simpa [Value.ownBlock] using fun e => hbg e.symm))
                have HX7 := Aside0.mk (Kd.R_grown (Kd.R_tight2 rfl HX6.out) hgr (fun k hk e => hbX (by rw [← hk.1]; simpa [Value.ownBlock] using e.symm)))
                have HT7 := Aside0.mk ho
                have HB7 := Aside0.mk hb
                obtain ⟨n2, hn2⟩ : ∃ n2, (ts ++ [(⟨0, 0, []⟩ : S27)]).length = n2 := ⟨_, rfl⟩
                have hn2' : n2 = nt + 1 := by rw [← hn2, List.length_append, HNT.out.1]; rfl
                obtain ⟨b2, c2, hv, -, -, cls, hcls⟩ := Kd.R_form ho (by rw [hn2]; omega)
                rw [hn2] at hv
                subst hv
                obtain ⟨Az, cz, ⟨y0, y1, y2⟩, -⟩ := term_at HT7.out nt (by omega) (⟨0, 0, []⟩ : S27) (by rw [List.getElem?_append_right (by rw [HNT.out.1]; exact Nat.le_refl _), HNT.out.1, Nat.sub_self]; rfl)
                obtain ⟨hb2g, hb2X⟩ := HT7.out.1 b2 rfl
                have hz1 : (nt : Int) < (n2 : Int) := by omega
                have HN2 := Lib.hid (And.intro hn2 hn2')
                clear ho hb hgr hat hn2 hn2'
                refine hK.out _ _ ((blk_cell HG7.out 1).trans rfl) (fun hHeld => ?_)
                clear hK K
                refine norm_ (a' := ?_) ?_ ?_
                rotate_left
                · show Act.put _ (some 62) _ = _
                  simp only [Act.put, List.setIfInBounds_toArray, List.set_cons_zero, List.set_cons_succ, i64_w, i32_w]
                  rfl
                clear HG6 HT6 HX6 HB6 HXlt hbg hbX
                refine pure_ (i := 10) (N := some 63) (v := ?_) (a' := ?_) #[true, true, true, true, true, true, true, true, true, true, true, false, false, false, false] rfl rfl (any_of HT_.out (by kernel_rfl)) (fun _ _ _ h => h) (Or.inl ⟨by rfl, ?_⟩) ?_ ?_
                rotate_left
                · intro w'
                  go_simp
                  first | done | with_reducible rfl
                rotate_left
                · simp only [Act.put, List.setIfInBounds_toArray, List.set_cons_zero, List.set_cons_succ, i64_w, i32_w]
                  rfl
                refine pure_ (i := 12) (N := some 64) (v := ?_) (a' := ?_) #[true, true, true, true, true, true, true, true, true, true, true, false, true, false, false] rfl rfl (any_of HT_.out (by kernel_rfl)) (fun _ _ _ h => h) (Or.inl ⟨by rfl, ?_⟩) ?_ ?_
                rotate_left
                · intro w'
                  go_simp
                  first | done | with_reducible rfl
                rotate_left
                · simp only [Act.put, List.setIfInBounds_toArray, List.set_cons_zero, List.set_cons_succ, i64_w, i32_w]
                  rfl
                refine pure_ (i := 13) (N := some 65) (v := ?_) (a' := ?_) #[true, true, true, true, true, true, true, true, true, true, true, false, true, true, false] rfl rfl (any_of HT_.out (by kernel_rfl)) (fun _ _ _ h => h) (Or.inl ⟨by rfl, ?_⟩) ?_ ?_
                rotate_left
                · intro w'
                  go_simp
                  first | done | with_reducible rfl
                rotate_left
                · simp only [Act.put, List.setIfInBounds_toArray, List.set_cons_zero, List.set_cons_succ, i64_w, i32_w]
                  rfl
                refine two_last (i := 11) (j := 14) (Ni := none) (Nj := none) #[true, true, true, true, true, true, true, true, true, true, true, true, true, true, false] #[true, true, true, true, true, true, true, true, true, true, true, false, true, true, true] rfl rfl rfl rfl (two_of HT_.out (by kernel_rfl)) (by decide) (by decide) (fun K hK => ?_) (fun K hK => ?_)
                case refine_1 =>
                  have f0 := blk_frozen hcls (nt * 3)
                  have f1 := blk_frozen hcls (nt * 3 + 1)
                  have f2 := blk_frozen hcls (nt * 3 + 2)
                  have g1 : w7.cell? ⟨g, 1, none⟩ = some (.slice (some ⟨bt, 0, none⟩) nt ct) := (blk_cell HG7.out 1).trans rfl
                  have gf := blk_frozen HG7.out 1
                  have hne : g ≠ b2 := fun e => hb2g e.symm
                  have hne' : b2 ≠ g := hb2g
                  refine skip_ (w1 := ?_) (by rfl) rfl ?_ ?_
                  rotate_left
                  · go_simp
                    rfl
                  refine hK.out _ _ ?_
                  clear hK K
                  refine last_ (i := 14) (N := none) #[true, true, true, true, true, true, true, true, true, true, true, true, true, true, true] rfl rfl (one_of HT_.out (by kernel_rfl)) (by decide) (fun K hK => ?_)
                  refine skip_ (w1 := ?_) (by rfl) rfl ?_ ?_
                  rotate_left
                  · go_simp
                    rfl
                  refine hK.out _ _ ?_
                  clear hK K
                  refine done_ (done_of HT_.out (by kernel_rfl)) ?_
                  go_wp2_with fail
                  simp only [Exit.jump]
                  go_wp2_with fail
                  have HXB : ∀ k, some k = (Value.slice A1 n1 c1).ownBlock ∧ k ≠ g → k ≠ b2 := fun k hk e => hb2X (by rw [← hk.1, e])
                  have hb2w : wb.heap.size ≤ b2 := Kd.R_base HT7.out b2 rfl
                  go_roundg (j - (i + 1))
                  case measure => omega
                  case rel =>
                    refine ⟨i + 1, by first | (rw [hiw']; congr 1; have := HI1.out; omega) | (congr 1; have := HI1.out; omega) | go_num, by omega, Nat.le_refl _, ⟨?_⟩⟩
                    rw [HST.out]
                    refine ⟨.slice (some ⟨b2, 0, none⟩) n2 c2, .slice A1 n1 c1, blk_put (blk_far (blk_far (blk_far HG7.out hne _) hne _) hne _) 1 _ rfl, hg0, ?_, ?_, below_set (below_set (below_set (below_set HB7.out hb2w) hb2w) hb2w) hg0⟩
                    · rw [show (Tm.leaf (i + 1) :: Ts).reverse.map toS = ts ++ [⟨-1, i1, []⟩] by rw [← HTS.out, ← HI1.out]; simp [toS]]
                      exact Kd.R_far (p := ⟨g, 1, none⟩) (leaf_put HT7.out HNT.out.1 (-1) i1) (fun k hk => hk.1) (.slice (some ⟨b2, 0, none⟩) n2 c2)
                    · rw [show ((i :: Ws).reverse.map fun (u : Nat) => (u : Int)) = xs ++ [(i : Int)] by rw [← HXS.out]; simp]
                      exact Kd.R_mono (Kd.R_far (p := ⟨g, 1, none⟩) (Kd.R_far (p := ⟨b2, nt * 3 + 2, none⟩) (Kd.R_far (p := ⟨b2, nt * 3 + 1, none⟩) (Kd.R_far (p := ⟨b2, nt * 3, none⟩) HX7.out HXB _) HXB _) HXB _) (fun k hk => hk.2) _) (fun k hk => hk.2)
                case refine_2 =>
                  have f0 := blk_frozen hcls (nt * 3)
                  have f1 := blk_frozen hcls (nt * 3 + 1)
                  have f2 := blk_frozen hcls (nt * 3 + 2)
                  have g1 : w7.cell? ⟨g, 1, none⟩ = some (.slice (some ⟨bt, 0, none⟩) nt ct) := (blk_cell HG7.out 1).trans rfl
                  have gf := blk_frozen HG7.out 1
                  have hne : g ≠ b2 := fun e => hb2g e.symm
                  have hne' : b2 ≠ g := hb2g
                  refine skip_ (w1 := ?_) (by rfl) rfl ?_ ?_
                  rotate_left
                  · go_simp
                    rfl
                  refine hK.out _ _ ?_
                  clear hK K
                  refine last_ (i := 11) (N := none) #[true, true, true, true, true, true, true, true, true, true, true, true, true, true, true] rfl rfl (one_of HT_.out (by kernel_rfl)) (by decide) (fun K hK => ?_)
                  refine skip_ (w1 := ?_) (by rfl) rfl ?_ ?_
                  rotate_left
                  · go_simp
                    rfl
                  refine hK.out _ _ ?_
                  clear hK K
                  refine done_ (done_of HT_.out (by kernel_rfl)) ?_
                  go_wp2_with fail
                  simp only [Exit.jump]
                  go_wp2_with fail
                  have HXB : ∀ k, some k = (Value.slice A1 n1 c1).ownBlock ∧ k ≠ g → k ≠ b2 := fun k hk e => hb2X (by rw [← hk.1, e])
                  have hb2w : wb.heap.size ≤ b2 := Kd.R_base HT7.out b2 rfl
                  go_roundg (j - (i + 1))
                  case measure => omega
                  case rel =>
                    refine ⟨i + 1, by first | (rw [hiw']; congr 1; have := HI1.out; omega) | (congr 1; have := HI1.out; omega) | go_num, by omega, Nat.le_refl _, ⟨?_⟩⟩
                    rw [HST.out]
                    refine ⟨.slice (some ⟨b2, 0, none⟩) n2 c2, .slice A1 n1 c1, blk_far (blk_far (blk_far (blk_put HG7.out 1 _ rfl) hne _) hne _) hne _, hg0, ?_, ?_, below_set (below_set (below_set (below_set HB7.out hg0) hb2w) hb2w) hb2w⟩
                    · rw [show (Tm.leaf (i + 1) :: Ts).reverse.map toS = ts ++ [⟨-1, i1, []⟩] by rw [← HTS.out, ← HI1.out]; simp [toS]]
                      exact leaf_put (Kd.R_far (p := ⟨g, 1, none⟩) HT7.out (fun k hk => hk.1) (.slice (some ⟨b2, 0, none⟩) n2 c2)) HNT.out.1 (-1) i1
                    · rw [show ((i :: Ws).reverse.map fun (u : Nat) => (u : Int)) = xs ++ [(i : Int)] by rw [← HXS.out]; simp]
                      exact Kd.R_mono (Kd.R_far (p := ⟨b2, nt * 3 + 2, none⟩) (Kd.R_far (p := ⟨b2, nt * 3 + 1, none⟩) (Kd.R_far (p := ⟨b2, nt * 3, none⟩) (Kd.R_far (p := ⟨g, 1, none⟩) HX7.out (fun k hk => hk.2) _) HXB _) HXB _) HXB _) (fun k hk => hk.2)
        · have hltz : ¬ (i : Int) < (j : Int) := by omega
          obtain rfl : i = j := by omega
          clear hlt hgi hi
          have HOK0 := Lib.hid (stG_ok (lvF L) i i (Nat.le_refl _)).1
          have HEND := Lib.hid (stG_ends (lvF L) i)
          obtain ⟨wr0, rfl⟩ : ∃ wr0, wr0 = wr := ⟨_, rfl⟩
          go_wp2_with fail
          go_loopg [67] (stG (lvF L) i).1.length (fun gg _ wz => ∃ (Ws : List Nat) (Ts : List Tm), Ws.length ≤ gg ∧ Aside0 (IsG wb wz g A0 c0 i Ws Ts) ∧ Hid (OkG i Ws Ts) ∧ Hid (endG Ws Ts = [grp (lvF L) 0 i]))
          case atStart => exact ⟨_, _, Nat.le_refl _, HG, HOK0, HEND⟩
          case round =>
            clear HG HOK0 HEND HBr
            obtain ⟨Ws, Ts, hgk, HG, HOK, HEND⟩ := hrel
            obtain ⟨vT, vX, hg, hg0, hT, hX, hb0⟩ := HG.out
            obtain ⟨AX, cX, rfl⟩ := Kd.R_slice hX
            obtain ⟨nX, hnX⟩ : ∃ nX, (Ws.reverse.map fun (u : Nat) => (u : Int)).length = nX := ⟨_, rfl⟩
            have hnx : nX = Ws.length := by rw [← hnX]; simp
            rw [hnX] at hg hT hX
            have q2 : wr.cell? ⟨g, 2, none⟩ = some (.slice AX nX cX) := (blk_cell hg 2).trans rfl
            cases Ws with
            | cons u Ws =>
              obtain ⟨b, a, Ts, rfl⟩ := HOK.out.two
              have hl : Ts.length ≤ 1000000 := by
                have h1 := HOK.out.1
                have h2 := HOK.out.2.2
                simp only [List.length_cons] at h1 h2
                omega
              have hx0 : (0 : Int) < (nX : Int) := by rw [hnx, List.length_cons]; omega
              have hx1 : 0 < nX := by omega
              have hxd : decide ((0 : Int) < (nX : Int)) = true := decide_eq_true hx0
              have HAP := Aside0.mk (IsG.apply HG.out hl)
              have HO2 := Lib.hid HOK.out.pop
              have HE2 := Lib.hid (show endG Ws (.node u a b :: Ts) = [grp (lvF L) 0 i] from HEND.out)
              have hgk2 : Ws.length < gk := by simp only [List.length_cons] at hgk; omega
              clear hg hT hX hb0 hnX hnx HG HOK HEND hgk hl
              go_wp2_with fail
              refine HAP.out.mono ?_
              rintro e w4 ⟨rfl, hG4⟩
              have HG4 := Aside0.mk hG4
              clear hG4 HAP q2
              go_wp2_with fail
              go_roundg Ws.length
              case measure => exact hgk2
              case rel => exact ⟨Ws, _, Nat.le_refl _, HG4, HO2, HE2⟩
            | nil =>
              obtain rfl : nX = 0 := hnx
              have hTs : Ts = [grp (lvF L) 0 i] := by
                have := HEND.out
                rwa [endG.eq_def] at this
              subst hTs
              obtain ⟨tt, htt⟩ : ∃ tt, toS (grp (lvF L) 0 i) = tt := ⟨_, rfl⟩
              have hrow : ([grp (lvF L) 0 i] : List Tm).reverse.map toS = [tt] := by simp [htt]
              rw [hrow] at hT
              have HRR := Lib.hid (by have h := HRES.out; rw [htt] at h; exact h)
              obtain ⟨bt, ct, hv, hbt, hbtl, -⟩ := Kd.R_form hT (by simp)
              rw [show ([tt] : List S27).length = 1 from rfl] at hv
              subst hv
              obtain ⟨Aa, ca, ⟨y0, y1, y2⟩, hM⟩ := term_at hT 0 (by omega) tt rfl
              have q1 : wr.cell? ⟨g, 1, none⟩ = some (.slice (some ⟨bt, 0, none⟩) 1 ct) := (blk_cell hg 1).trans rfl
              obtain ⟨v2, he, hR⟩ := k27_openM hM
              obtain rfl : v2 = .slice Aa tt.f2.length ca := by simpa using he.symm
              have HRM := Aside0.mk hR
              have HZ := Aside0.mk ((hb0.block _ (blk_lt HZb.out)).trans HZb.out)
              have HBF := Aside0.mk (below_step HBb.out hb0)
              have z0 : wr.cell? ⟨w.heap.size, 0, none⟩ = some (.int .i64 0) := (blk_cell HZ.out 0).trans rfl
              have z1 : wr.cell? ⟨w.heap.size, 1, none⟩ = some (.int .i64 0) := (blk_cell HZ.out 1).trans rfl
              have z2 : wr.cell? ⟨w.heap.size, 2, none⟩ = some (.slice none 0 0) := (blk_cell HZ.out 2).trans rfl
              have f0 := blk_frozen HZ.out 0
              have f1 := blk_frozen HZ.out 1
              have f2 := blk_frozen HZ.out 2
              have hwb := blk_lt HZb.out
              have hx0 : ¬ (0 : Int) < ((0 : Nat) : Int) := by omega
              have y0' : wr.cell? ⟨bt, 0, none⟩ = some (.int .i64 tt.f0) := y0
              have y1' : wr.cell? ⟨bt, 1, none⟩ = some (.int .i64 tt.f1) := y1
              have y2' : wr.cell? ⟨bt, 2, none⟩ = some (.slice Aa tt.f2.length ca) := y2
              clear hg hT hX hb0 hnX HG HOK HEND hgk hM y0 y1 y2 HRES hR he
              go_wp2_with fail
              refine bodyPost_ret (results_ct rfl _ _ w.heap.size 27 #[.int .i64 tt.f0, .int .i64 tt.f1, .slice Aa tt.f2.length ca] (0, 0) _ rfl (blk_put (blk_put (blk_put HZ.out 0 _ rfl) 1 _ rfl) 2 _ rfl) hu27 rfl (by kernel_rfl)) rfl ?_
              obtain ⟨rfl, rfl, rfl, rfl⟩ := HRR.out
              have hRb := Kd.R_mono (ok' := fun k => k ≠ w.heap.size) (Kd.R_bound HRM.out) (fun k hk => by have := hk.2.1; omega)
              exact ⟨_, rfl, Kd.R_mono (Kd.R_lower (Kd.R_far (p := ⟨w.heap.size, 2, none⟩) (Kd.R_far (p := ⟨w.heap.size, 1, none⟩) (Kd.R_far (p := ⟨w.heap.size, 0, none⟩) hRb (fun k hk => hk) _) (fun k hk => hk) _) (fun k hk => hk) _) (below_size HBb.out)) (fun _ _ => trivial), below_set (below_set (below_set HBF.out (Nat.le_refl _)) (Nat.le_refl _)) (Nat.le_refl _)⟩




end Go.Proofs.Ytdfiohekkegjdaa.QI
