/- What files spell: the walked functions of package spell come to plain words. -/
import Derived.Test.YtfccifekaokibaaGreatDoorQTx9
import Derived.Test.YtfccifekaokibaaGreatDoorQTx2
import Derived.Test.YtfccifekaokibaaGreatDoorQTx12
import Derived.Sort.Walk0
import Derived.Test.YtfccifekaokibaaGreatDoorLxTok
import Derived.Test.YtfccifekaokibaaGreatDoorGpAlk
namespace Go.Proofs.YtfccifekaokibaaGreatDoor.Sp
open Go.RowKit Go.Proofs.YtfccifekaokibaaGreatDoor.QT Go.Proofs.YtfccifekaokibaaGreatDoorW.PrintWords Go.Proofs.YtfccifekaokibaaGreatDoorW.PrintLast Oriel.Lx Go.Proofs.YtfccifekaokibaaGreatDoor.Lx
abbrev F := S41
abbrev Tok := S51
abbrev Pl := S32
/-! ### few -/
theorem file_at (l : List F) (i : Nat) (h : i < l.length) : rd_T41 l (i : Int) = l[i] := by
  unfold rd_T41
  rw [Int.toNat_natCast, List.getD_eq_getElem?_getD, List.getElem?_eq_getElem h]
  rfl
def FewS (l : List F) : Prop := l.length ≤ 4 ∧ ∀ f ∈ l, f.f1.size ≤ 1500
def FewF (l : List F) : Prop := l.length ≤ 10 ∧ ∀ f ∈ l, f.f1.size ≤ 10000
theorem FewS.big {l : List F} (h : FewS l) : FewF l := ⟨Nat.le_trans h.1 (by decide), fun f hf => Nat.le_trans (h.2 f hf) (by decide)⟩
theorem few_loop (l : List F) : ∀ (d i n : Nat), 5 - i = d → i ≤ 5 → i ≤ l.length → n ≤ 10000 * i → (n ≤ 1500 → ∀ x ∈ l.take i, x.f1.size ≤ 1500) →
    ∃ b, Ev (fun k => orielref10_Few.l0 k l (n : Int) (i : Int)) b ∧ (b = true → FewS l) := by
  intro d
  induction d with
  | zero =>
    intro i n hd hi hl hn hx
    refine ⟨false, Ev.step (f := fun _ => some false) (fun k => ?_) (Ev.now _), fun h => by cases h⟩
    rw [orielref10_Few.l0]
    by_cases h : (i : Int) < (l.length : Int)
    · rw [if_pos h, if_neg (by omega), if_neg (by omega)]
    · rw [if_neg h, if_neg (by omega)]
  | succ d ih =>
    intro i n hd hi hl hn hx
    by_cases h : i < l.length
    · have hr := file_at l i h
      have hm : ∀ z : ByteArray, mn (z.size : Int) 5000 = ((min z.size 5000 : Nat) : Int) := by
        intro z
        unfold mn
        split <;> omega
      have m1 : min (l[i]).f1.size 5000 ≤ 5000 := Nat.min_le_right _ _
      have m0 : min (l[i]).f0.size 5000 ≤ 5000 := Nat.min_le_right _ _
      obtain ⟨b, h1, h2⟩ := ih (i + 1) (n + min (l[i]).f1.size 5000 + min (l[i]).f0.size 5000) (by omega) (by omega) (by omega) (by omega) (fun hle x hxm => by
        rw [List.take_succ_eq_append_getElem h, List.mem_append, List.mem_singleton] at hxm
        rcases hxm with hxm | rfl
        · exact hx (by omega) x hxm
        · omega)
      refine ⟨b, Ev.step (f := fun k => orielref10_Few.l0 k l ((n + min (l[i]).f1.size 5000 + min (l[i]).f0.size 5000 : Nat) : Int) ((i + 1 : Nat) : Int)) (fun k => ?_) h1, h2⟩
      rw [orielref10_Few.l0, if_pos (by omega), if_pos (by omega), if_pos (by omega), hr, hm, hm, wrap_nat i (by omega)]
      rw [show wrap64 (wrap64 ((n : Int) + ((min (l[i]).f1.size 5000 : Nat) : Int)) + ((min (l[i]).f0.size 5000 : Nat) : Int)) = ((n + min (l[i]).f1.size 5000 + min (l[i]).f0.size 5000 : Nat) : Int) by unfold wrap64; omega]
    · have hil : i = l.length := by omega
      by_cases h4 : l.length ≤ 4
      · refine ⟨decide ((n : Int) ≤ 1500), Ev.step (f := fun _ => some (decide ((n : Int) ≤ 1500))) (fun k => ?_) (Ev.now _), fun hb => ?_⟩
        · rw [orielref10_Few.l0, if_neg (by omega), if_pos (by omega)]
        · have hb := of_decide_eq_true hb
          refine ⟨h4, fun x hxm => hx (by omega) x ?_⟩
          rw [hil, List.take_length]
          exact hxm
      · refine ⟨false, Ev.step (f := fun _ => some false) (fun k => ?_) (Ev.now _), fun h => by cases h⟩
        rw [orielref10_Few.l0, if_neg (by omega), if_neg (by omega)]
theorem few_ev (l : List F) : ∃ b, Ev (fun k => orielref10_Few.f k l) b ∧ (b = true → FewS l) :=
  few_loop l 5 0 0 rfl (by omega) (by omega) (by omega) (fun _ x hx => by simp at hx)
/-! ### names -/
theorem places_in : ∀ (m : Nat) (l : T) (n : Nat), l.length ≤ m → (∀ t ∈ places n (scan l), 0 ≤ t.f1 ∧ t.f1 ≤ t.f2 ∧ t.f2 ≤ ((n + l.length : Nat) : Int)) ∧ (places n (scan l)).length ≤ l.length + 1
  | m, [], n, hm => by
    rw [scan_nil]
    refine ⟨fun t ht => ?_, by simp [places]⟩
    unfold places at ht
    rw [List.mem_singleton] at ht
    subst ht
    dsimp only
    simp
  | 0, b :: r, n, hm => by simp at hm
  | m + 1, b :: r, n, hm => by
    have h := tk_len b r
    have hl : ((b :: r).drop (tk (b :: r)).2).length = (b :: r).length - (tk (b :: r)).2 := List.length_drop ..
    obtain ⟨h1, h2⟩ := places_in m ((b :: r).drop (tk (b :: r)).2) (n + (tk (b :: r)).2) (by simp only [List.length_cons] at hm hl h ⊢; omega)
    rw [scan_cons]
    generalize tk (b :: r) = p at *
    obtain ⟨ty, q⟩ := p
    dsimp only at h hl h1 h2 ⊢
    refine ⟨fun t ht => ?_, ?_⟩
    · unfold places at ht
      rcases List.mem_cons.1 ht with rfl | ht
      · dsimp only
        omega
      · have := h1 t ht
        omega
    · unfold places
      rw [List.length_cons]
      omega
def nm (s : ByteArray) : List Tok := (places 0 (scan s.data.toList)).filter fun x => !(lex_Names.no x)
theorem names_ev (s : ByteArray) (hq : s.size ≤ 1000000) : Ev (fun k => lex_Names.f k s) (nm s) := by
  unfold lex_Names.f nm
  exact Ev.bind (f := fun _ ts => some (ts.filter fun x => !(lex_Names.no x))) (scan_ev s hq) (Ev.now _)
theorem nm_in (s : ByteArray) : (∀ t ∈ nm s, 0 ≤ t.f1 ∧ t.f1 ≤ t.f2 ∧ t.f2 ≤ (s.size : Int)) ∧ (nm s).length ≤ s.size + 1 := by
  obtain ⟨h1, h2⟩ := places_in s.data.toList.length s.data.toList 0 (Nat.le_refl _)
  rw [len] at h1 h2
  refine ⟨fun t ht => ?_, Nat.le_trans (List.length_filter_le _ _) h2⟩
  have := h1 t (List.mem_filter.1 ht).1
  rwa [Nat.zero_add] at this
def key (s : ByteArray) (t : Tok) : T := (s.extract t.f1.toNat t.f2.toNat).data.toList
def prs (i : Int) (s : ByteArray) : List (T × Pl) := (nm s).map fun t => (key s t, ⟨i, t.f1⟩)
theorem pairs_map (i : Int) (s : ByteArray) : ∀ ts : List Tok, (∀ t ∈ ts, 0 ≤ t.f1 ∧ t.f1 ≤ t.f2 ∧ t.f2 ≤ (s.size : Int) ∧ t.f2 ≤ 1000000) → pairsF i s ts = some (ts.map fun t => (key s t, ⟨i, t.f1⟩))
  | [], _ => rfl
  | t :: r, h => by
    unfold pairsF
    rw [if_pos (h t List.mem_cons_self), pairs_map i s r (fun x hx => h x (List.mem_cons_of_mem _ hx))]
    rfl
def spellP : Nat → List F → List (T × Pl)
  | _, [] => []
  | i, f :: r => prs (i : Int) f.f1 ++ spellP (i + 1) r
theorem spellF_ev : ∀ (l : List F) (i : Nat), (∀ f ∈ l, f.f1.size ≤ 10000) → Ev (fun k => spellF k i l) (spellP i l)
  | [], _, _ => Ev.now _
  | f :: r, i, h => by
    have hf := h f List.mem_cons_self
    refine Ev.bind (f := fun k ts => (pairsF (i : Int) f.f1 ts).bind fun l => (spellF k (i + 1) r).bind fun m => some (l ++ m)) (names_ev f.f1 (by omega)) ?_
    rw [pairs_map (i : Int) f.f1 (nm f.f1) (fun t ht => by have := (nm_in f.f1).1 t ht; omega)]
    exact Ev.bind (f := fun k m => some (prs (i : Int) f.f1 ++ m)) (spellF_ev r (i + 1) fun x hx => h x (List.mem_cons_of_mem _ hx)) (Ev.now _)
theorem spellP_len (B : Nat) : ∀ (l : List F) (i : Nat), (∀ f ∈ l, f.f1.size ≤ B) → (spellP i l).length ≤ l.length * (B + 1)
  | [], _, _ => Nat.zero_le _
  | f :: r, i, h => by
    have hf := h f List.mem_cons_self
    have h1 := (nm_in f.f1).2
    have h2 := spellP_len B r (i + 1) fun x hx => h x (List.mem_cons_of_mem _ hx)
    unfold spellP prs
    rw [List.length_append, List.length_map, List.length_cons, Nat.succ_mul]
    omega
theorem spelled_ev (l : List F) (h : FewF l) : Ev (fun k => spell_spelled.f k l) (spellP 0 l) := by
  have h4 := h.1
  have hl := spellP_len 10000 l 0 h.2
  unfold spell_spelled.f
  simp only [if_pos (show l.length ≤ 1000 by omega)]
  refine Ev.bind (f := fun _ m => if m.length ≤ 1000000 then some m else none) (spellF_ev l 0 h.2) ?_
  exact Ev.congr (f := fun _ => some (spellP 0 l)) (fun _ => by rw [if_pos (by omega)]) (Ev.now _)
def keysL (l : List F) : List T := (ddk ((spellP 0 l).map (·.1))).mergeSort fun x y => decide (x ≤ y)
theorem taken_ev (l : List F) (h : FewF l) : Ev (fun k => spell_Taken.f k l) ((keysL l).map ofL) := by
  unfold spell_Taken.f keysL
  exact Ev.bind (f := fun _ P => some (((ddk (P.map (·.1))).mergeSort fun x y => decide (x ≤ y)).map ofL)) (spelled_ev l h) (Ev.now _)
theorem keys_mem (x : T) : ∀ (l : List F) (i : Nat), x ∈ (spellP i l).map (·.1) ↔ ∃ f ∈ l, ∃ t ∈ nm f.f1, key f.f1 t = x
  | [], i => by simp [spellP]
  | f :: r, i => by
    have ih := keys_mem x r (i + 1)
    unfold spellP prs
    rw [List.map_append, List.mem_append, ih, List.map_map, List.mem_map]
    simp
theorem keysL_mem (x : T) (l : List F) : x ∈ keysL l ↔ ∃ f ∈ l, ∃ t ∈ nm f.f1, key f.f1 t = x := by
  unfold keysL
  rw [(List.mergeSort_perm _ _).mem_iff, ddk_mem, keys_mem]
theorem key_le (s : ByteArray) (t : Tok) : (key s t).length ≤ s.size := by
  unfold key
  rw [len, ByteArray.size_extract]
  omega
theorem ddk_len : ∀ q : List T, (ddk q).length ≤ q.length := by
  intro q
  induction q with
  | nil => simp [ddk]
  | cons x r ih =>
    unfold ddk
    split
    · simp only [List.length_cons]; omega
    · simp only [List.length_cons]; omega
theorem keysL_lenB (B : Nat) (l : List F) (h : ∀ f ∈ l, f.f1.size ≤ B) : (keysL l).length ≤ l.length * (B + 1) := by
  have h1 := spellP_len B l 0 h
  have h2 := ddk_len ((spellP 0 l).map (·.1))
  unfold keysL
  rw [List.length_mergeSort]
  rw [List.length_map] at h2
  omega
theorem keysL_len (l : List F) (h : FewF l) : (keysL l).length ≤ 200000 := by
  have h1 := keysL_lenB 10000 l h.2
  have h4 := h.1
  omega
theorem ofL_list (x : T) : (ofL x).data.toList = x := by simp [ofL]
theorem gp_some (l : List F) (x : T) (hx : x ∈ keysL l) : (Gp (spellP 0 l) x).length ≠ 0 := by
  have h1 : x ∈ (spellP 0 l).map (·.1) := by
    unfold keysL at hx
    rwa [(List.mergeSort_perm _ _).mem_iff, ddk_mem] at hx
  obtain ⟨p, hp, rfl⟩ := List.mem_map.1 h1
  intro h0
  have h2 := List.eq_nil_of_length_eq_zero h0
  unfold Gp at h2
  rw [List.map_eq_nil_iff, List.filter_eq_nil_iff] at h2
  exact h2 p hp (by simp)
theorem texts_loop (l : List ByteArray) (hl : l.length ≤ 1000000) : ∀ d n : Nat, l.length - n = d → n ≤ l.length → Ev (fun k => orielref04_Texts.l0 k l l (n : Int)) true := by
  intro d
  induction d with
  | zero =>
    intro n hd hn
    exact Ev.step (f := fun _ => some true) (fun k => by rw [orielref04_Texts.l0, if_neg (by omega)]) (Ev.now _)
  | succ d ih =>
    intro n hd hn
    refine Ev.step (f := fun k => orielref04_Texts.l0 k l l ((n + 1 : Nat) : Int)) (fun k => ?_) (ih (n + 1) (by omega) (by omega))
    rw [orielref04_Texts.l0, if_pos (by omega), if_pos (by omega), if_pos (by omega), if_pos rfl, wrap_nat n (by omega)]
theorem texts_ev (l : List ByteArray) (hl : l.length ≤ 1000000) : Ev (fun k => orielref04_Texts.f k l l) true := by
  have := texts_loop l hl l.length 0 (by omega) (by omega)
  exact Ev.congr (f := fun k => orielref04_Texts.l0 k l l 0) (fun k => by rw [orielref04_Texts.f, if_pos rfl]) this
end Go.Proofs.YtfccifekaokibaaGreatDoor.Sp

