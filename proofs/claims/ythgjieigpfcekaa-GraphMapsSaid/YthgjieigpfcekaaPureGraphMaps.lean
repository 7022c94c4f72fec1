/- GraphMaps: the plain law. -/
import Derived.Test.YthgjieigpfcekaaGrAlive
import Derived.Test.YthgjieigpfcekaaQGx14
namespace Go.Proofs.Ythgjieigpfcekaa.Pure
open Go.RowKit Go.Proofs.Ythgjieigpfcekaa.QG Go.Proofs.YthgjieigpfcekaaW.PrintWords Go.Proofs.YthgjieigpfcekaaW.PrintLast Go.Proofs.Ythgjieigpfcekaa.Gr
abbrev restP (m : List Int) (i : Int) : Bool := !m.contains i
def restL (m : List Int) (i : Nat) : List Int := ((List.range i).map (fun (i : Nat) => (i : Int))).filter (restP m)
theorem maps_l1 (m k : List Int) (n : Int) (hm : m.length ≤ 100) (hn : n ≤ 200) : ∀ (d i : Nat), n.toNat - i = d → i ≤ n.toNat →
    Ev (fun q => oriellaw15_GraphMaps.l1 q m k n (m.map (thenX k)) (restL m i) (i : Int)) true := by
  intro d
  induction d with
  | zero =>
    intro i hd hi
    have hnl : ¬ (i : Int) < n := by omega
    have hnew : graph_New.f n m = some (restL m i) := by
      unfold graph_New.f
      rw [if_neg (by omega)]
      unfold whereL restL
      rw [show (max n 0).toNat = i by omega]
    have hthen : graph_Then.f m k = some (m.map (thenX k)) := by
      unfold graph_Then.f
      rw [if_pos (by omega)]
    have hlen : (restL m i).length ≤ i := where_len _ _
    refine Ev.step (f := fun q => (oriellaw01_Ints.f q (m.map (thenX k)) (m.map (thenX k))).bind fun t235 => (if t235 = true then ((graph_New.f n m).bind fun t236 => ((oriellaw01_Ints.f q t236 (restL m i)).bind fun t239 => (if t239 = true then ((oriellaw01_Ints.f q m ([] ++ m)).bind fun t240 => (if t240 = true then ((oriellaw15_alive.f q).bind fun t241 => (some t241)) else (some false))) else (some false)))) else (some false))) (fun q => by
      rw [oriellaw15_GraphMaps.l1, if_neg hnl, Option.bind_some, if_pos (by simp; omega), hthen, Option.bind_some]) ?_
    refine Ev.bind (ints_ev _ _ (by rw [List.length_map]; omega)) ?_
    simp only [decide_true, if_true, hnew, Option.bind_some]
    refine Ev.bind (ints_ev _ _ (by omega)) ?_
    simp only [decide_true, if_true]
    refine Ev.bind (ints_ev _ _ (by omega)) ?_
    simp only [List.nil_append, decide_true, if_true]
    exact Ev.bind (f := fun _ t => some t) alive15 (Ev.now _)
  | succ d ih =>
    intro i hd hi
    have hlt : (i : Int) < n := by omega
    have ihn := ih (i + 1) (by omega) (by omega)
    have hs : restL m (i + 1) = restL m i ++ (if restP m (i : Int) = true then [(i : Int)] else []) := where_succ _ _
    have hlen : (restL m i).length ≤ i := where_len _ _
    rw [hs] at ihn
    refine Ev.step (f := fun q => (orielref12_In.f q m (i : Int)).bind fun t222 => (if t222 = true then (oriellaw15_GraphMaps.l1 q m k n (m.map (thenX k)) (restL m i) (wrap64 ((i : Int) + 1))) else (if (restL m i).length < 17592186044416 then (oriellaw15_GraphMaps.l1 q m k n (m.map (thenX k)) (restL m i ++ [(i : Int)]) (wrap64 ((i : Int) + 1))) else (none)))) (fun q => by rw [oriellaw15_GraphMaps.l1, if_pos hlt]) ?_
    refine Ev.bind (in_ev m (by omega) (i : Int)) ?_
    simp only [wrap_nat i (by omega), if_pos (show (restL m i).length < 17592186044416 by omega)]
    cases h : m.contains (i : Int) with
    | true =>
      rw [show restP m (i : Int) = false by unfold restP; rw [h]; rfl, if_neg (by simp), List.append_nil] at ihn
      simp only [if_true]
      exact ihn
    | false =>
      rw [show restP m (i : Int) = true by unfold restP; rw [h]; rfl, if_pos rfl] at ihn
      simp only [if_neg Bool.false_ne_true]
      exact ihn
theorem maps_l0 (m k : List Int) (n : Int) (hm : m.length ≤ 100) (hn : n ≤ 200) : ∀ (d j : Nat), m.length - j = d → j ≤ m.length →
    Ev (fun q => oriellaw15_GraphMaps.l0 q m k n ((m.take j).map (thenX k)) m (m.length : Int) (j : Int)) true := by
  intro d
  induction d with
  | zero =>
    intro j hd hj
    rw [List.take_of_length_le (by omega)]
    exact Ev.step (f := fun q => oriellaw15_GraphMaps.l1 q m k n (m.map (thenX k)) (restL m 0) ((0 : Nat) : Int)) (fun q => by rw [oriellaw15_GraphMaps.l0, if_neg (by omega)]; rfl) (maps_l1 m k n hm hn n.toNat 0 (by omega) (by omega))
  | succ d ih =>
    intro j hd hj
    have hlt : j < m.length := by omega
    have ihn := ih (j + 1) (by omega) (by omega)
    have ht : (m.take (j + 1)).map (thenX k) = (m.take j).map (thenX k) ++ [thenX k (rd m (j : Int))] := by
      rw [List.take_add_one, List.getElem?_eq_getElem hlt, List.map_append, rd_nat _ _ hlt]
      rfl
    rw [ht] at ihn
    have hl : ((m.take j).map (thenX k)).length < 17592186044416 := by rw [List.length_map, List.length_take]; omega
    refine Ev.step (f := fun q => oriellaw15_GraphMaps.l0 q m k n ((m.take j).map (thenX k) ++ [thenX k (rd m (j : Int))]) m (m.length : Int) ((j + 1 : Nat) : Int)) (fun q => ?_) ihn
    rw [oriellaw15_GraphMaps.l0, if_pos (by omega), if_pos (by omega), if_pos (by omega), wrap_nat j (by omega)]
    generalize rd m (j : Int) = x
    generalize hB : (m.take j).map (thenX k) = B at hl ⊢
    by_cases h0 : x ≥ 0
    · by_cases h1 : x < (k.length : Int)
      · have tx : thenX k x = rd k x := by unfold thenX; rw [if_pos (by simp [inB]; omega)]
        rw [if_pos h0, if_pos h1, if_pos h0, if_pos hl, tx]
      · have tx : thenX k x = -1 := by unfold thenX; rw [if_neg (by simp [inB]; omega)]
        rw [if_pos h0, if_neg h1, if_pos hl, tx]
    · have tx : thenX k x = -1 := by unfold thenX; rw [if_neg (by simp [inB]; omega)]
      rw [if_neg h0, if_pos hl, tx]
theorem GraphMaps : oriellaw15_GraphMaps.Pure := by
  intro m k n _ _ _ _ _ _ _
  refine Ev.rounds ?_
  have skip : Ev (fun q => oriellaw15_GraphMaps.j1 q m k n true) true := Ev.step (f := fun q => (oriellaw15_alive.f q).bind fun t => some t) (fun q => by rw [oriellaw15_GraphMaps.j1, if_pos rfl]) (Ev.bind (f := fun _ t => some t) alive15 (Ev.now _))
  have body : Ev (fun q => oriellaw15_GraphMaps.j0 q m k n false) true := by
    by_cases h1 : (m.length : Int) > 100
    · exact Ev.step (f := fun q => oriellaw15_GraphMaps.j1 q m k n true) (fun q => by rw [oriellaw15_GraphMaps.j0, if_neg (by simp), if_pos h1]) skip
    · by_cases h2 : (k.length : Int) > 100
      · exact Ev.step (f := fun q => oriellaw15_GraphMaps.j1 q m k n true) (fun q => by rw [oriellaw15_GraphMaps.j0, if_neg (by simp), if_neg h1, if_pos h2]) skip
      · by_cases h3 : n > 200
        · exact Ev.step (f := fun q => oriellaw15_GraphMaps.j1 q m k n true) (fun q => by rw [oriellaw15_GraphMaps.j0, if_neg (by simp), if_neg h1, if_neg h2, decide_eq_true h3]) skip
        · refine Ev.step (f := fun q => oriellaw15_GraphMaps.j1 q m k n false) (fun q => by rw [oriellaw15_GraphMaps.j0, if_neg (by simp), if_neg h1, if_neg h2, decide_eq_false h3]) ?_
          exact Ev.step (f := fun q => oriellaw15_GraphMaps.l0 q m k n ((m.take 0).map (thenX k)) m (m.length : Int) ((0 : Nat) : Int)) (fun q => by rw [oriellaw15_GraphMaps.j1, if_neg (by simp)]; rfl) (maps_l0 m k n (by omega) (by omega) m.length 0 (by omega) (by omega))
  unfold oriellaw15_GraphMaps.f
  by_cases hbig : n > 16777216
  · simp only [if_pos hbig]
    by_cases hm : (m.length : Int) ≤ 100
    · rw [decide_eq_true hm]
      have hnew : graph_New.f n m = some [] := by
        unfold graph_New.f
        rw [if_pos hbig]
      exact Ev.step (f := fun q => (oriellaw15_alive.f q).bind fun t => some t) (fun q => by rw [oriellaw15_GraphMaps.j0, if_pos rfl, hnew, Option.bind_some, if_pos (by rfl)]) (Ev.bind (f := fun _ t => some t) alive15 (Ev.now _))
    · rw [decide_eq_false hm]
      exact body
  · simp only [if_neg hbig]
    exact body
end Go.Proofs.Ythgjieigpfcekaa.Pure
