/- The law SpellOrder, in plain words. -/
import Derived.Test.YtfccifekaokibaaDoorQSx11
import Derived.Test.YtfccifekaokibaaDoorSpEv
import Derived.Test.YtfccifekaokibaaDoorSpAlive
namespace Go.Proofs.YtfccifekaokibaaDoor.Pure
open Go.RowKit Go.Proofs.YtfccifekaokibaaDoor.QS Go.Proofs.YtfccifekaokibaaDoorW.PrintWords Go.Proofs.YtfccifekaokibaaDoorW.PrintLast Oriel.Lx Go.Proofs.YtfccifekaokibaaDoor.Lx Go.Proofs.YtfccifekaokibaaDoor.Sp
def nb (f : F) : F := ⟨⟨#[98]⟩, f.f1⟩
def bk (l : List F) (i : Nat) : List F := ((l.drop i).map nb).reverse
theorem bk_len (l : List F) (i : Nat) : (bk l i).length = l.length - i := by
  unfold bk
  rw [List.length_reverse, List.length_map, List.length_drop]
theorem bk_step (l : List F) (i : Nat) (h : i < l.length) : bk l i = bk l (i + 1) ++ [nb l[i]] := by
  unfold bk
  rw [List.drop_eq_getElem_cons h, List.map_cons, List.reverse_cons]
theorem bk_mem (l : List F) (f : F) : f ∈ bk l 0 ↔ ∃ g ∈ l, nb g = f := by
  unfold bk
  rw [List.mem_reverse, List.drop_zero, List.mem_map]
theorem bk_few (l : List F) (h : FewF l) : FewF (bk l 0) := by
  refine ⟨by rw [bk_len, Nat.sub_zero]; exact h.1, fun f hf => ?_⟩
  obtain ⟨g, hg, rfl⟩ := (bk_mem l f).1 hf
  exact h.2 g hg
theorem bk_keys (l : List F) : keysL (bk l 0) = keysL l := by
  refine keysL_ext _ _ fun x => ?_
  rw [keysL_mem, keysL_mem]
  constructor
  · rintro ⟨f, hf, t, ht, hx⟩
    obtain ⟨g, hg, rfl⟩ := (bk_mem l f).1 hf
    exact ⟨g, hg, t, ht, hx⟩
  · rintro ⟨g, hg, t, ht, hx⟩
    exact ⟨nb g, (bk_mem l _).2 ⟨g, hg, rfl⟩, t, ht, hx⟩
theorem free_ev (l : List F) (h : FewF l) (x : T) (hx : x ∈ keysL l) : Ev (fun k => spell_Free.f k (ofL x) l) false := by
  have hs := keysL_le l h x hx
  unfold spell_Free.f
  refine Ev.bind (f := fun k t => if t = true then (if (ofL x).size ≤ 1000000 then (spell_spelled.f k l).bind fun P => some (decide ((Gp P (ofL x).data.toList).length = 0)) else none) else some false) (alike_ev _ _ (by rw [ofL_size]; omega) (by rw [ofL_size]; omega)) ?_
  cases alikeT (ofL x).data.toList (ofL x).data.toList with
  | false =>
    simp only [Bool.false_eq_true, if_false]
    exact Ev.now _
  | true =>
    simp only [if_true, if_pos (show (ofL x).size ≤ 1000000 by rw [ofL_size]; omega)]
    refine Ev.bind (f := fun _ P => some (decide ((Gp P (ofL x).data.toList).length = 0))) (spelled_ev l h) ?_
    rw [ofL_list, decide_eq_false (gp_some l x hx)]
    exact Ev.now _
theorem rd_str (l : List ByteArray) (i : Nat) (h : i < l.length) : rdOf ByteArray.empty l (i : Int) = l[i] := by
  unfold rdOf
  rw [Int.toNat_natCast, List.getD_eq_getElem?_getD, List.getElem?_eq_getElem h]
  rfl
theorem so_loop (l : List F) (h : FewF l) : ∀ d n : Nat, (keysL l).length - n = d → n ≤ (keysL l).length →
    Ev (fun k => oriellaw16_SpellOrder.l1 k l (bk l 0) ((keysL l).map ofL) ((keysL l).map ofL) (((keysL l).map ofL).length : Int) (n : Int)) true := by
  have hlen := keysL_len l h
  rw [List.length_map]
  intro d
  induction d with
  | zero =>
    intro n hd hn
    have htk := taken_ev (bk l 0) (bk_few l h)
    rw [bk_keys] at htk
    refine Ev.step (f := fun k => (spell_Taken.f k (bk l 0)).bind fun t199 => ((orielref04_Texts.f k ((keysL l).map ofL) t199).bind fun t202 => (if t202 = true then ((oriellaw16_alive.f k).bind fun t203 => (some t203)) else (some false)))) (fun k => by rw [oriellaw16_SpellOrder.l1, if_neg (by omega)]) ?_
    refine Ev.bind (f := fun k t199 => ((orielref04_Texts.f k ((keysL l).map ofL) t199).bind fun t202 => (if t202 = true then ((oriellaw16_alive.f k).bind fun t203 => (some t203)) else (some false)))) htk ?_
    refine Ev.bind (f := fun k t202 => (if t202 = true then ((oriellaw16_alive.f k).bind fun t203 => (some t203)) else (some false))) (texts_ev _ (by rw [List.length_map]; omega)) ?_
    simp only [if_true]
    exact Ev.bind (f := fun _ t => some t) alive16 (Ev.now _)
  | succ d ih =>
    intro n hd hn
    have hnl : n < (keysL l).length := by omega
    have hx : (keysL l)[n] ∈ keysL l := List.getElem_mem hnl
    have hrd : rdOf ByteArray.empty ((keysL l).map ofL) (n : Int) = ofL (keysL l)[n] := by
      rw [rd_str _ n (by rw [List.length_map]; exact hnl), List.getElem_map]
    have nx := ih (n + 1) (by omega) (by omega)
    have h0 := gp_some l _ hx
    obtain ⟨K1, h1⟩ := places_ev l h _ hx
    obtain ⟨K2, h2⟩ := free_ev l h _ hx
    obtain ⟨K3, h3⟩ := nx
    refine ⟨K1 + K2 + K3 + 1, fun k hk => ?_⟩
    obtain ⟨k, rfl⟩ : ∃ q, k = q + 1 := ⟨k - 1, by omega⟩
    have g1 := h1 k (by omega)
    have g2 := h2 k (by omega)
    have g3 := h3 k (by omega)
    dsimp only at g1 g2 g3
    show oriellaw16_SpellOrder.l1 (k + 1) l (bk l 0) ((keysL l).map ofL) ((keysL l).map ofL) ((keysL l).length : Int) (n : Int) = some true
    rw [oriellaw16_SpellOrder.l1, if_pos (by omega), if_pos (by omega), if_pos (by rw [List.length_map]; omega), hrd, g1, Option.bind_some, if_neg (by omega), g2, Option.bind_some, if_neg Bool.false_ne_true, wrap_nat n (by omega)]
    by_cases hn0 : (n : Int) > 0
    · obtain ⟨m, rfl⟩ : ∃ m, n = m + 1 := ⟨n - 1, by omega⟩
      have hw : wrap64 (((m + 1 : Nat) : Int) - 1) = (m : Int) := by unfold wrap64; omega
      have hrm : rdOf ByteArray.empty ((keysL l).map ofL) (m : Int) = ofL (keysL l)[m] := by
        rw [rd_str _ m (by rw [List.length_map]; omega), List.getElem_map]
      have hlt := keysL_rise l m hnl
      rw [if_pos hn0, hw, if_pos (by omega), if_pos (by rw [List.length_map]; omega), hrm, ByteArray.toList_eq, ByteArray.toList_eq, ofL_list, ofL_list, bytesLess_eq, if_pos (decide_eq_true hlt)]
      exact g3
    · rw [if_neg hn0]
      exact g3
theorem back_loop (l : List F) (h : FewF l) : ∀ i : Nat, i ≤ l.length → Ev (fun k => oriellaw16_SpellOrder.l0 k l (bk l i) ((i : Int) - 1)) true := by
  have h4 := h.1
  intro i
  induction i with
  | zero =>
    intro hi
    refine Ev.step (f := fun k => (spell_Taken.f k l).bind fun t196 => (oriellaw16_SpellOrder.l1 k l (bk l 0) t196 t196 (t196.length : Int) 0)) (fun k => by rw [oriellaw16_SpellOrder.l0, if_neg (by omega)]) ?_
    refine Ev.bind (f := fun k t196 => oriellaw16_SpellOrder.l1 k l (bk l 0) t196 t196 (t196.length : Int) 0) (taken_ev l h) ?_
    exact so_loop l h _ 0 rfl (by omega)
  | succ j ih =>
    intro hi
    have hj : j < l.length := by omega
    have hb := ih (by omega)
    rw [bk_step l j hj] at hb
    refine Ev.step (f := fun k => oriellaw16_SpellOrder.l0 k l (bk l (j + 1) ++ [nb l[j]]) ((j : Int) - 1)) (fun k => ?_) hb
    have e1 : (((j + 1 : Nat) : Int) - 1) = (j : Int) := by omega
    have e2 : wrap64 ((j : Int) - 1) = (j : Int) - 1 := by unfold wrap64; omega
    rw [e1, oriellaw16_SpellOrder.l0, if_pos (by omega), if_pos (by omega), if_pos (by omega), if_pos (by rw [bk_len]; omega), file_at l j hj, e2]
    rfl
theorem SpellOrder (l : List F) (_ : ∀ f ∈ l, f.f0.size ≤ maxLen ∧ f.f1.size ≤ maxLen) : ∃ k, oriellaw16_SpellOrder.f k l = some true := by
  refine Ev.rounds (g := fun k => oriellaw16_SpellOrder.f k l) ?_
  obtain ⟨b, h1, h2⟩ := few_ev l
  unfold oriellaw16_SpellOrder.f
  refine Ev.bind (f := fun k t190 => if t190 = true then (oriellaw16_SpellOrder.l0 k l ([] : List F) (wrap64 ((l.length : Int) - 1))) else ((oriellaw16_alive.f k).bind fun t191 => (some t191))) h1 ?_
  cases b with
  | false =>
    simp only [Bool.false_eq_true, if_false]
    exact Ev.bind (f := fun _ t => some t) alive16 (Ev.now _)
  | true =>
    simp only [if_true]
    have h := h2 rfl
    have h4 := h.1
    have := back_loop l h l.length (Nat.le_refl _)
    have e : bk l l.length = [] := by
      unfold bk
      rw [List.drop_of_length_le (Nat.le_refl _)]
      rfl
    rw [e] at this
    rw [show wrap64 ((l.length : Int) - 1) = (l.length : Int) - 1 by unfold wrap64; omega]
    exact this
end Go.Proofs.YtfccifekaokibaaDoor.Pure
