/- Graphs: what the printed functions come to. -/
import Derived.Test.YthgjieigpfcekaaGrMath
import Derived.Test.YthgjieigpfcekaaQGx2
import Derived.Test.YthgjieigpfcekaaQGx10
import Derived.Test.YthgjieigpfcekaaQGx2
namespace Go.Proofs.Ythgjieigpfcekaa.Gr
open Go.RowKit Go.Proofs.Ythgjieigpfcekaa.QG Go.Proofs.YthgjieigpfcekaaW.PrintWords Go.Proofs.YthgjieigpfcekaaW.PrintLast
theorem wrap_nat (n : Nat) (h : n ≤ 9000000000000000000) : wrap64 ((n : Int) + 1) = ((n + 1 : Nat) : Int) := by unfold wrap64; omega
theorem rd_nat (l : List Int) (n : Nat) (h : n < l.length) : rd l (n : Int) = l[n] := by
  show l.getD n 0 = _
  rw [List.getD_eq_getElem?_getD, List.getElem?_eq_getElem h]
  rfl
theorem rdP_nat (l : List PP) (n : Nat) (h : n < l.length) : rd_T34 l (n : Int) = l[n] := by
  show l.getD n _ = _
  rw [List.getD_eq_getElem?_getD, List.getElem?_eq_getElem h]
  rfl
theorem ints_loop (a b : List Int) (hb : b.length = a.length) (ha : a.length ≤ 1000000000) : ∀ d n : Nat, a.length - n = d → n ≤ a.length →
    Ev (fun k => oriellaw01_Ints.l0 k a b (a.length : Int) (n : Int)) (decide (a.drop n = b.drop n)) := by
  intro d
  induction d with
  | zero =>
    intro n hd hn
    rw [List.drop_of_length_le (by omega), List.drop_of_length_le (by omega)]
    exact Ev.step (f := fun _ => some true) (fun k => by rw [oriellaw01_Ints.l0, if_neg (by omega)]) (Ev.now _)
  | succ d ih =>
    intro n hd hn
    have h1 : n < a.length := by omega
    have h2 : n < b.length := by omega
    rw [List.drop_eq_getElem_cons h1, List.drop_eq_getElem_cons h2]
    by_cases he : a[n] = b[n]
    · have := ih (n + 1) (by omega) (by omega)
      refine Ev.step (f := fun k => oriellaw01_Ints.l0 k a b (a.length : Int) ((n + 1 : Nat) : Int)) (fun k => by rw [oriellaw01_Ints.l0, if_pos (by omega), if_pos (by omega), if_pos (by omega), if_pos (by omega), rd_nat _ _ h1, rd_nat _ _ h2, if_pos he, wrap_nat n (by omega)]) ?_
      rw [decide_eq_decide.2 (show (a[n] :: a.drop (n + 1) = b[n] :: b.drop (n + 1)) ↔ a.drop (n + 1) = b.drop (n + 1) by rw [he, List.cons.injEq]; exact ⟨fun h => h.2, fun h => ⟨rfl, h⟩⟩)]
      exact this
    · refine Ev.step (f := fun _ => some false) (fun k => by rw [oriellaw01_Ints.l0, if_pos (by omega), if_pos (by omega), if_pos (by omega), if_pos (by omega), rd_nat _ _ h1, rd_nat _ _ h2, if_neg he]) ?_
      rw [decide_eq_false (fun h => he (List.cons.inj h).1)]
      exact Ev.now _
theorem ints_ev (a b : List Int) (ha : a.length ≤ 1000000000) : Ev (fun k => oriellaw01_Ints.f k a b) (decide (a = b)) := by
  unfold oriellaw01_Ints.f
  by_cases h : b.length = a.length
  · simp only [if_pos (show (a.length : Int) = (b.length : Int) by omega)]
    exact ints_loop a b h ha a.length 0 (by omega) (by omega)
  · simp only [if_neg (show ¬ (a.length : Int) = (b.length : Int) by omega)]
    rw [decide_eq_false (fun e => h (by rw [e]))]
    exact Ev.now _
theorem in_loop (l : List Int) (hl : l.length ≤ 1000000000) (x : Int) : ∀ d n : Nat, l.length - n = d → n ≤ l.length → Ev (fun k => orielref12_In.l0 k l x (n : Int)) ((l.drop n).contains x) := by
  intro d
  induction d with
  | zero =>
    intro n hd hn
    rw [List.drop_of_length_le (by omega)]
    exact Ev.step (f := fun _ => some false) (fun k => by rw [orielref12_In.l0, if_neg (by omega)]) (Ev.now _)
  | succ d ih =>
    intro n hd hn
    have h1 : n < l.length := by omega
    rw [List.drop_eq_getElem_cons h1, List.contains_cons]
    by_cases he : l[n] = x
    · rw [show (x == l[n]) = true by rw [he]; exact beq_self_eq_true x, Bool.true_or]
      exact Ev.step (f := fun _ => some true) (fun k => by rw [orielref12_In.l0, if_pos (by omega), if_pos (by omega), rd_nat _ _ h1, if_pos he]) (Ev.now _)
    · rw [show (x == l[n]) = false from beq_eq_false_iff_ne.2 (fun e => he e.symm), Bool.false_or]
      exact Ev.step (f := fun k => orielref12_In.l0 k l x ((n + 1 : Nat) : Int)) (fun k => by rw [orielref12_In.l0, if_pos (by omega), if_pos (by omega), rd_nat _ _ h1, if_neg he, wrap_nat n (by omega)]) (ih (n + 1) (by omega) (by omega))
theorem in_ev (l : List Int) (hl : l.length ≤ 1000000000) (x : Int) : Ev (fun k => orielref12_In.f k l x) (l.contains x) := in_loop l hl x l.length 0 (by omega) (by omega)
/-- One step of a round. -/
theorem linked_step (L : List PP) (hL : L.length ≤ 1000000) (b : Int) (met : List Int) (hm : met.length ≤ 100000000) (r : Int) (n : Nat) (hn : n < L.length) (res : Bool)
    (h : Ev (fun k => orielref12_Linked.l1 k L b (lkStep met L[n]) r ((n + 1 : Nat) : Int)) res) : Ev (fun k => orielref12_Linked.l1 k L b met r (n : Int)) res := by
  obtain ⟨K0, e0⟩ := in_ev met (by omega) L[n].f0
  obtain ⟨K1, e1⟩ := in_ev met (by omega) L[n].f1
  obtain ⟨K, e⟩ := h
  refine ⟨K0 + K1 + K + 2, fun k hk => ?_⟩
  obtain ⟨k, rfl⟩ : ∃ m, k = m + 2 := ⟨k - 2, by omega⟩
  have f0 := e0 (k + 1) (by omega)
  have f1 := e1 (k + 1) (by omega)
  have f := e k (by omega)
  dsimp only at f0 f1 f ⊢
  rw [orielref12_Linked.l1, if_pos (by omega), if_pos (by omega), rdP_nat _ _ hn, f0, f1]
  simp only [Option.bind_some]
  unfold lkStep at f
  cases h0 : met.contains L[n].f0 <;> cases h1 : met.contains L[n].f1 <;> rw [h0, h1] at f <;>
    simp only [Bool.false_and, Bool.and_false, Bool.true_and, Bool.not_false, Bool.not_true, if_neg Bool.false_ne_true, if_pos, orielref12_Linked.j2, Option.bind_some, rdP_nat _ _ hn, wrap_nat n (by omega), if_pos (show (0 : Int) ≤ (n : Int) by omega), if_pos (show (n : Int) < (L.length : Int) by omega), if_pos (show met.length < 17592186044416 by omega)] at f ⊢ <;> exact f
theorem lkStep_len (met : List Int) (p : PP) : (lkStep met p).length ≤ met.length + 1 := by
  unfold lkStep
  repeat' split
  all_goals simp
theorem linked_round (L : List PP) (hL : L.length ≤ 1000000) (b : Int) (r : Nat) (res : Bool) : ∀ (d n : Nat) (met : List Int), L.length - n = d → n ≤ L.length → met.length + d ≤ 100000000 →
    Ev (fun k => orielref12_Linked.l0 k L b (lkRound (L.drop n) met) (wrap64 ((r : Int) + 1))) res → Ev (fun k => orielref12_Linked.l1 k L b met (r : Int) (n : Int)) res := by
  intro d
  induction d with
  | zero =>
    intro n met hd hn hm h
    rw [List.drop_of_length_le (by omega)] at h
    exact Ev.step (f := fun k => orielref12_Linked.l0 k L b met (wrap64 ((r : Int) + 1))) (fun k => by rw [orielref12_Linked.l1, if_neg (by omega)]) h
  | succ d ih =>
    intro n met hd hn hm h
    have hlt : n < L.length := by omega
    rw [List.drop_eq_getElem_cons hlt] at h
    refine linked_step L hL b met (by omega) r n hlt res (ih (n + 1) (lkStep met L[n]) (by omega) (by omega) (by have := lkStep_len met L[n]; omega) h)
theorem lkRound_len (L : List PP) : ∀ met : List Int, (lkRound L met).length ≤ met.length + L.length := by
  induction L with
  | nil => intro met; exact Nat.le_refl _
  | cons p r ih =>
    intro met
    have h1 := ih (lkStep met p)
    have h2 := lkStep_len met p
    have : lkRound (p :: r) met = lkRound r (lkStep met p) := rfl
    rw [this]
    simp
    omega
theorem linked_rounds (L : List PP) (hL : L.length ≤ 1000) (b : Int) : ∀ (d r : Nat) (met : List Int), L.length + 1 - r = d → r ≤ L.length + 1 → met.length + d * L.length ≤ 10000000 → 
    Ev (fun k => orielref12_Linked.l0 k L b met (r : Int)) ((lkRounds L d met).contains b) := by
  intro d
  induction d with
  | zero =>
    intro r met hd hr hm
    refine Ev.step (f := fun k => (orielref12_In.f k met b).bind fun t => some t) (fun k => by rw [orielref12_Linked.l0, if_neg (by omega)]) ?_
    exact Ev.bind (f := fun _ t => some t) (in_ev met (by omega) b) (Ev.now _)
  | succ d ih =>
    intro r met hd hr hm
    refine Ev.step (f := fun k => orielref12_Linked.l1 k L b met (r : Int) 0) (fun k => by rw [orielref12_Linked.l0, if_pos (by omega)]) ?_
    have hlen := lkRound_len L met
    have hmul : (d + 1) * L.length = d * L.length + L.length := Nat.succ_mul d L.length
    refine linked_round L (by omega) b r _ L.length 0 met (by omega) (by omega) (by omega) ?_
    rw [List.drop_zero, wrap_nat r (by omega)]
    exact ih (r + 1) _ (by omega) (by omega) (by omega)
theorem linked_ev (L : List PP) (hL : L.length ≤ 1000) (a b : Int) : Ev (fun k => orielref12_Linked.f k L a b) (linkB L a b) := by
  have h := linked_rounds L hL b (L.length + 1) 0 [a] (by omega) (by omega) (by
    have : (L.length + 1) * L.length ≤ 1001 * 1000 := Nat.mul_le_mul (by omega) (by omega)
    simp
    omega)
  rw [lkRounds_tells L a (L.length + 1) [a] (by have := openN_le [a] L; omega) (by simp) (fun x hx => by simp at hx; subst hx; exact .refl) b] at h
  exact h
/-- Who is of one family with an occurrence. -/
noncomputable def famB (E : List Int) (L : List PP) (occ : Int) : List Int := if 0 ≤ occ ∧ occ < (E.length : Int) then whereL (fun i => linkB L (rd E occ) (rd E i)) E.length else []
theorem whereL_congr {p q : Int → Bool} (h : ∀ i, p i = q i) (n : Int) : whereL p n = whereL q n := by
  have : p = q := funext h
  rw [this]
theorem family_ev (E : List Int) (L : List PP) (V : List Int) (hE : E.length ≤ 1000000) (hL : L.length ≤ 1000) (hok : E.all okI = true) (hokL : okL L = true) (occ : Int) : Ev (fun k => graph_Family.f k E L V occ) (famB E L occ) := by
  unfold graph_Family.f famB
  by_cases hin : 0 ≤ occ ∧ occ < (E.length : Int)
  · simp only [if_pos hin, if_pos (show E.all okI = true ∧ okL L = true ∧ E.length ≤ 16777216 ∧ L.length ≤ 1000000 from ⟨hok, hokL, by omega, by omega⟩)]
    obtain ⟨S, h1, h2⟩ := famLoop_tells L (by omega) (rd E occ)
    refine Ev.bind (f := fun _ S => some (whereL (fun i => S.contains (rd E i)) E.length)) (Ev.of (fun k => famLoop_mono k L _) h1) ?_
    rw [whereL_congr (q := fun i => linkB L (rd E occ) (rd E i)) (fun i => h2 _)]
    exact Ev.now _
  · simp only [if_neg hin]
    exact Ev.now _
theorem rfamily_loop (E : List Int) (L : List PP) (V : List Int) (hE : E.length ≤ 1000000) (hL : L.length ≤ 1000) (occ : Int) (h0 : 0 ≤ occ) (h1 : occ < (E.length : Int)) : ∀ d n : Nat, E.length - n = d → n ≤ E.length → ∀ out : List Int, out.length ≤ n →
    out = (((List.range n).map (fun (i : Nat) => (i : Int))).filter fun i => linkB L (rd E occ) (rd E i)) → Ev (fun k => orielref15_Family.l0 k occ out (n : Int) E L V) (whereL (fun i => linkB L (rd E occ) (rd E i)) E.length) := by
  intro d
  induction d with
  | zero =>
    intro n hd hn out hol ho
    obtain rfl : n = E.length := by omega
    subst ho
    exact Ev.step (f := fun _ => some (whereL (fun i => linkB L (rd E occ) (rd E i)) E.length)) (fun k => by rw [orielref15_Family.l0, if_neg (by omega)]; rfl) (Ev.now _)
  | succ d ih =>
    intro n hd hn out hol ho
    have hs := where_succ (fun i => linkB L (rd E occ) (rd E i)) n
    have hlk := linked_ev L hL (rd E (n : Int)) (rd E occ)
    rw [linkB_symm] at hlk
    cases hq : linkB L (rd E occ) (rd E (n : Int)) with
    | true =>
      rw [hq] at hlk
      rw [hq, if_pos rfl, ← ho] at hs
      have := ih (n + 1) (by omega) (by omega) (out ++ [(n : Int)]) (by simp; omega) hs.symm
      refine Ev.step (f := fun k => (orielref12_Linked.f k L (rd E (n : Int)) (rd E occ)).bind fun t => if t = true then (if out.length < 17592186044416 then orielref15_Family.l0 k occ (out ++ [(n : Int)]) (wrap64 ((n : Int) + 1)) E L V else none) else orielref15_Family.l0 k occ out (wrap64 ((n : Int) + 1)) E L V) (fun k => by rw [orielref15_Family.l0, if_pos (by omega), if_pos (by omega), if_pos h0, if_pos h1]) ?_
      refine Ev.bind hlk ?_
      simp only [if_pos, if_pos (show out.length < 17592186044416 by omega), wrap_nat n (by omega)]
      exact this
    | false =>
      rw [hq] at hlk
      rw [hq, if_neg (by simp), List.append_nil, ← ho] at hs
      have := ih (n + 1) (by omega) (by omega) out (by omega) hs.symm
      refine Ev.step (f := fun k => (orielref12_Linked.f k L (rd E (n : Int)) (rd E occ)).bind fun t => if t = true then (if out.length < 17592186044416 then orielref15_Family.l0 k occ (out ++ [(n : Int)]) (wrap64 ((n : Int) + 1)) E L V else none) else orielref15_Family.l0 k occ out (wrap64 ((n : Int) + 1)) E L V) (fun k => by rw [orielref15_Family.l0, if_pos (by omega), if_pos (by omega), if_pos h0, if_pos h1]) ?_
      refine Ev.bind hlk ?_
      simp only [if_neg Bool.false_ne_true, wrap_nat n (by omega)]
      exact this
theorem rfamily_ev (E : List Int) (L : List PP) (V : List Int) (hE : E.length ≤ 1000000) (hL : L.length ≤ 1000) (occ : Int) : Ev (fun k => orielref15_Family.f k E L V occ) (famB E L occ) := by
  unfold orielref15_Family.f famB
  by_cases h0 : occ < 0
  · simp only [if_pos h0, if_neg (show ¬ (0 ≤ occ ∧ occ < (E.length : Int)) by omega)]
    exact Ev.step (f := fun _ => some []) (fun k => by rw [orielref15_Family.j0, if_pos rfl]) (Ev.now _)
  · by_cases h1 : occ < (E.length : Int)
    · simp only [if_neg h0, if_pos (show 0 ≤ occ ∧ occ < (E.length : Int) by omega), decide_eq_false (show ¬ occ ≥ (E.length : Int) by omega)]
      exact Ev.step (f := fun k => orielref15_Family.l0 k occ [] 0 E L V) (fun k => by rw [orielref15_Family.j0, if_neg (by simp)]) (rfamily_loop E L V hE hL occ (by omega) h1 E.length 0 (by omega) (by omega) [] (by simp) rfl)
    · simp only [if_neg h0, if_neg (show ¬ (0 ≤ occ ∧ occ < (E.length : Int)) by omega), decide_eq_true (show occ ≥ (E.length : Int) by omega)]
      exact Ev.step (f := fun _ => some []) (fun k => by rw [orielref15_Family.j0, if_pos rfl]) (Ev.now _)
end Go.Proofs.Ythgjieigpfcekaa.Gr
