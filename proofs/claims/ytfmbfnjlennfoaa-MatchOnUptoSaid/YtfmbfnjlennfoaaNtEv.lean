/- Lists of bindings: what the printed functions come to; the chapter's example. -/
import Derived.Test.YtfmbfnjlennfoaaNtMath
import Derived.Test.YtfmbfnjlennfoaaQNx2
import Derived.Test.YtfmbfnjlennfoaaQNx5
import Derived.Test.YtfmbfnjlennfoaaQNx7
namespace Go.Proofs.Ytfmbfnjlennfoaa.Nt
open Go.RowKit Go.Proofs.Ytfmbfnjlennfoaa.QN Go.Proofs.YtfmbfnjlennfoaaW.PrintWords Go.Proofs.YtfmbfnjlennfoaaW.PrintLast
theorem wrap_nat (n : Nat) (h : n ≤ 9000000000000000000) : wrap64 ((n : Int) + 1) = ((n + 1 : Nat) : Int) := by unfold wrap64; omega
theorem wrap_pred (n : Nat) (h : n ≤ 9000000000000000000) : wrap64 (((n + 1 : Nat) : Int) - 1) = (n : Int) := by unfold wrap64; omega
theorem rd_nat (l : List Int) (n : Nat) (h : n < l.length) : rd l (n : Int) = l[n] := by
  show l.getD n 0 = _
  rw [List.getD_eq_getElem?_getD, List.getElem?_eq_getElem h]
  rfl
theorem rdB_nat (l : List BB) (n : Nat) (h : n < l.length) : rd_T33 l (n : Int) = l[n] := by
  show l.getD n _ = _
  rw [List.getD_eq_getElem?_getD, List.getElem?_eq_getElem h]
  rfl
theorem eta_b (b : BB) : (⟨b.f0, b.f1, b.f2, b.f3, b.f4, b.f5⟩ : BB) = b := by cases b; rfl
theorem ints_loop (a b : List Int) (hb : b.length = a.length) (ha : a.length ≤ 1000000000) : ∀ d n : Nat, a.length - n = d → n ≤ a.length →
    Ev (fun k => oriellaw01_Ints.l0 k a b (a.length : Int) (n : Int)) (decide (a.drop n = b.drop n)) := by
  intro d
  induction d with
  | zero =>
    intro n hd hn
    rw [List.drop_of_length_le (by omega), List.drop_of_length_le (by omega)]
    exact Ev.step (f := fun _ => some true) (fun k => by rw [oriellaw01_Ints.l0, if_neg (by omega)]) (Ev.now _)
  | succ d ih =>
    intro n hd hn
    have h1 : n < a.length := by omega
    have h2 : n < b.length := by omega
    rw [List.drop_eq_getElem_cons h1, List.drop_eq_getElem_cons h2]
    by_cases he : a[n] = b[n]
    · have := ih (n + 1) (by omega) (by omega)
      refine Ev.step (f := fun k => oriellaw01_Ints.l0 k a b (a.length : Int) ((n + 1 : Nat) : Int)) (fun k => by rw [oriellaw01_Ints.l0, if_pos (by omega), if_pos (by omega), if_pos (by omega), if_pos (by omega), rd_nat _ _ h1, rd_nat _ _ h2, if_pos he, wrap_nat n (by omega)]) ?_
      rw [decide_eq_decide.2 (show (a[n] :: a.drop (n + 1) = b[n] :: b.drop (n + 1)) ↔ a.drop (n + 1) = b.drop (n + 1) by rw [he, List.cons.injEq]; exact ⟨fun h => h.2, fun h => ⟨rfl, h⟩⟩)]
      exact this
    · refine Ev.step (f := fun _ => some false) (fun k => by rw [oriellaw01_Ints.l0, if_pos (by omega), if_pos (by omega), if_pos (by omega), if_pos (by omega), rd_nat _ _ h1, rd_nat _ _ h2, if_neg he]) ?_
      rw [decide_eq_false (fun h => he (List.cons.inj h).1)]
      exact Ev.now _
theorem ints_ev (a b : List Int) (ha : a.length ≤ 1000000000) : Ev (fun k => oriellaw01_Ints.f k a b) (decide (a = b)) := by
  unfold oriellaw01_Ints.f
  by_cases h : b.length = a.length
  · simp only [if_pos (show (a.length : Int) = (b.length : Int) by omega)]
    exact ints_loop a b h ha a.length 0 (by omega) (by omega)
  · simp only [if_neg (show ¬ (a.length : Int) = (b.length : Int) by omega)]
    rw [decide_eq_false (fun e => h (by rw [e]))]
    exact Ev.now _
theorem ev_all {α : Type} {g : Nat → Option α} {r : α} (h : ∀ k, g k = some r) : Ev g r := ⟨0, fun k _ => h k⟩
theorem pairs_loop (a : List PP) (ha : a.length ≤ 1000000000) : ∀ d n : Nat, a.length - n = d → n ≤ a.length → Ev (fun k => orielref12_Pairs.l0 k a a (n : Int)) true := by
  intro d
  induction d with
  | zero =>
    intro n hd hn
    exact Ev.step (f := fun _ => some true) (fun k => by rw [orielref12_Pairs.l0, if_neg (by omega)]) (Ev.now _)
  | succ d ih =>
    intro n hd hn
    refine Ev.step (f := fun k => orielref12_Pairs.l0 k a a ((n + 1 : Nat) : Int)) (fun k => ?_) (ih (n + 1) (by omega) (by omega))
    rw [orielref12_Pairs.l0, if_pos (by omega), if_pos (by omega), if_pos (by omega), beq_self_eq_true, beq_self_eq_true, if_neg (by simp), wrap_nat n (by omega)]
theorem pairs_ev (a : List PP) (ha : a.length ≤ 1000000000) : Ev (fun k => orielref12_Pairs.f k a a) true := by
  unfold orielref12_Pairs.f
  simp only [if_true]
  exact pairs_loop a ha a.length 0 (by omega) (by omega)
theorem lk_ex : lkL [(⟨3, 1⟩ : PP), ⟨1, 3⟩, ⟨2, 2⟩] = [⟨1, 3⟩] := by
  have h : lkRaw [(⟨3, 1⟩ : PP), ⟨1, 3⟩, ⟨2, 2⟩] = [⟨1, 3⟩, ⟨1, 3⟩] := rfl
  unfold lkL
  rw [h, List.mergeSort_of_pairwise (by
    rw [List.pairwise_cons]
    refine ⟨fun x hx => ?_, List.pairwise_singleton _ _⟩
    rw [List.mem_singleton.1 hx]
    rfl)]
  rfl
theorem alive12 : Ev (fun k => oriellaw12_alive.f k) true := by
  unfold oriellaw12_alive.f
  have h1 : ∀ k, match_Links.f k [(⟨3, 1⟩ : PP), ⟨1, 3⟩, ⟨2, 2⟩] = some [⟨1, 3⟩] := by
    intro k
    unfold match_Links.f
    rw [if_pos (by simp), lk_ex]
  simp only [h1, Option.bind_some]
  refine Ev.bind (pairs_ev [⟨1, 3⟩] (by simp)) ?_
  have h2 : match_Class.f 4 [(⟨1, 3⟩ : PP)] = some [0, 1, 2, 1] := by decide
  simp only [h2, Option.bind_some, if_true]
  refine Ev.bind (ints_ev [0, 1, 2, 1] [0, 1, 2, 1] (by simp)) ?_
  simp only [decide_true, if_true]
  refine Ev.bind (a := true) (Ev.of (fun k => match_Linked.mono _ _ _ k) (show match_Linked.f 10 [(⟨1, 3⟩ : PP)] 3 1 = some true by decide)) ?_
  simp only [if_true]
  refine Ev.bind (a := false) (Ev.of (fun k => match_Linked.mono _ _ _ k) (show match_Linked.f 10 [(⟨1, 3⟩ : PP)] 2 1 = some false by decide)) ?_
  exact Ev.now _
/-! #### the size -/
theorem size_loop (l : List BB) (hl : l.length ≤ 1000000000) (ih : ∀ b ∈ l, ∀ a, (∃ r, Ev (fun k => orielref11_Size.f k b.f4 a) r) ∧ ∃ r, Ev (fun k => orielref11_Size.f k b.f5 a) r) (a : Int) : ∀ (d n : Nat) (x : Int), l.length - n = d → n ≤ l.length → ∃ r, Ev (fun k => orielref11_Size.l0 k l a x (n : Int)) r := by
  intro d
  induction d with
  | zero =>
    intro n x hd hn
    refine ⟨x, Ev.step (f := fun k => orielref11_Size.j1 k l a x (n : Int) false) (fun k => by rw [orielref11_Size.l0, if_neg (by omega)]) ?_⟩
    exact Ev.step (f := fun _ => some x) (fun k => by rw [orielref11_Size.j1, if_neg (by simp)]) (Ev.now _)
  | succ d ihd =>
    intro n x hd hn
    have hlt : n < l.length := by omega
    by_cases hx : x ≤ a
    · obtain ⟨⟨r4, h4⟩, -⟩ := ih l[n] (List.getElem_mem hlt) (wrap64 (a - x))
      obtain ⟨-, r5, h5⟩ := ih l[n] (List.getElem_mem hlt) (wrap64 (a - x))
      obtain ⟨r, hr⟩ := ihd (n + 1) (wrap64 ((wrap64 ((wrap64 (x + 1)) + r4)) + r5)) (by omega) (by omega)
      refine ⟨r, Ev.step (f := fun k => orielref11_Size.j1 k l a x (n : Int) true) (fun k => by rw [orielref11_Size.l0, if_pos (by omega), decide_eq_true hx]) ?_⟩
      refine Ev.step (f := fun k => (orielref11_Size.f k l[n].f4 (wrap64 (a - x))).bind fun t102 => (orielref11_Size.f k l[n].f5 (wrap64 (a - x))).bind fun t104 => orielref11_Size.l0 k l a (wrap64 ((wrap64 ((wrap64 (x + 1)) + t102)) + t104)) ((n + 1 : Nat) : Int)) (fun k => by rw [orielref11_Size.j1, if_pos rfl, if_pos (by omega), if_pos (by omega), rdB_nat _ _ hlt, wrap_nat n (by omega)]) ?_
      refine Ev.bind (f := fun k t102 => (orielref11_Size.f k l[n].f5 (wrap64 (a - x))).bind fun t104 => orielref11_Size.l0 k l a (wrap64 ((wrap64 ((wrap64 (x + 1)) + t102)) + t104)) ((n + 1 : Nat) : Int)) h4 ?_
      exact Ev.bind (f := fun k t104 => orielref11_Size.l0 k l a (wrap64 ((wrap64 ((wrap64 (x + 1)) + r4)) + t104)) ((n + 1 : Nat) : Int)) h5 hr
    · refine ⟨x, Ev.step (f := fun k => orielref11_Size.j1 k l a x (n : Int) false) (fun k => by rw [orielref11_Size.l0, if_pos (by omega), decide_eq_false hx]) ?_⟩
      exact Ev.step (f := fun _ => some x) (fun k => by rw [orielref11_Size.j1, if_neg (by simp)]) (Ev.now _)
theorem szB_parts5 {b : BB} {l : List BB} (h : b ∈ l) : szL b.f5 < szL l := by
  have h1 := szB_le h
  obtain ⟨_, _, _, _, pa, pm⟩ := b
  simp only [szB] at h1
  show szL pm < _
  omega
theorem size_ev (m : Nat) : ∀ (l : List BB), szL l < m → szL l ≤ 4000000 → ∀ a, ∃ r, Ev (fun k => orielref11_Size.f k l a) r := by
  induction m with
  | zero => intro l h; omega
  | succ m ih =>
    intro l h hm a
    have hl := szL_len l
    obtain ⟨r, hr⟩ := size_loop l (by omega) (fun b hb a => ⟨ih b.f4 (by have := szB_parts hb; omega) (by have := szB_parts hb; omega) a, ih b.f5 (by have := szB_parts5 hb; omega) (by have := szB_parts5 hb; omega) a⟩) a l.length 0 0 (by omega) (by omega)
    exact ⟨r, Ev.step (f := fun k => orielref11_Size.l0 k l a 0 ((0 : Nat) : Int)) (fun k => by rw [orielref11_Size.f]; rfl) hr⟩
theorem few_ev (l : List BB) (h : szL l ≤ 4000000) : ∃ r, Ev (fun k => oriellaw12_few.f k l) r := by
  obtain ⟨r, hr⟩ := size_ev _ l (Nat.lt_succ_self _) h 100
  unfold oriellaw12_few.f
  exact ⟨_, Ev.bind (f := fun _ t => some (decide (t ≤ 100))) hr (Ev.now _)⟩
/-! #### finding -/
def lastI : List BB → EKey → Option Nat
  | [], _ => none
  | b :: r, k => match lastI r k with
    | some i => some (i + 1)
    | none => if keyB b = k then some 0 else none
theorem lastI_append (k : EKey) (b : List BB) : ∀ a : List BB, lastI (a ++ b) k = match lastI b k with
    | some i => some (a.length + i)
    | none => lastI a k
  | [] => by
    rw [List.nil_append]
    cases lastI b k with
    | some i => dsimp only; rw [List.length_nil, Nat.zero_add]
    | none => rfl
  | x :: a => by
    rw [List.cons_append, lastI, lastI_append k b a]
    cases lastI b k with
    | some i => dsimp only; rw [List.length_cons, show a.length + i + 1 = a.length + 1 + i by omega]
    | none => rfl
theorem lastI_fnd (k : EKey) : ∀ l : List BB, (lastI l k = none ↔ fnd l k = none) ∧ ∀ i, lastI l k = some i → ∃ h : i < l.length, fnd l k = some l[i]
  | [] => ⟨⟨fun _ => rfl, fun _ => rfl⟩, fun i h => by cases h⟩
  | b :: r => by
    obtain ⟨h1, h2⟩ := lastI_fnd k r
    rw [lastI, fnd]
    cases hl : lastI r k with
    | some i =>
      obtain ⟨hi, hf⟩ := h2 i hl
      rw [hf]
      refine ⟨by simp, fun j hj => ?_⟩
      dsimp only at hj
      obtain rfl := Option.some.inj hj
      exact ⟨by rw [List.length_cons]; omega, rfl⟩
    | none =>
      rw [h1.1 hl]
      dsimp only
      by_cases hb : keyB b = k
      · rw [if_pos hb, if_pos hb]
        refine ⟨by simp, fun j hj => ?_⟩
        obtain rfl := Option.some.inj hj
        exact ⟨by simp, rfl⟩
      · rw [if_neg hb, if_neg hb]
        exact ⟨by simp, fun j hj => by cases hj⟩
def idxI (l : List BB) (k : EKey) : Int := match lastI l k with
  | some i => (i : Int)
  | none => -1
theorem find_loop (l : List BB) (hl : l.length ≤ 1000000000) (k : EKey) : ∀ n : Nat, n ≤ l.length → Ev (fun g => orielref11_Find.l0 g l k.1 k.2 ((n : Int) - 1)) (idxI (l.take n) k) := by
  intro n
  induction n with
  | zero =>
    intro _
    rw [List.take_zero]
    exact Ev.step (f := fun _ => some (-1)) (fun g => by rw [orielref11_Find.l0, if_neg (by omega)]) (Ev.now _)
  | succ n ih =>
    intro hn
    have hlt : n < l.length := by omega
    have htk : l.take (n + 1) = l.take n ++ [l[n]] := by rw [List.take_add_one, List.getElem?_eq_getElem hlt]; rfl
    have hlen : (l.take n).length = n := by rw [List.length_take]; omega
    rw [htk]
    have e1 : (((n + 1 : Nat) : Int) - 1) = (n : Int) := by omega
    rw [e1]
    have hlast : lastI [l[n]] k = if keyB l[n] = k then some 0 else none := rfl
    by_cases hk : keyB l[n] = k
    · have hi : idxI (l.take n ++ [l[n]]) k = (n : Int) := by
        unfold idxI
        rw [lastI_append, hlast, if_pos hk]
        dsimp only
        rw [hlen]
        rfl
      rw [hi]
      have h0 : l[n].f0 = k.1 := congrArg Prod.fst hk
      have h1 : l[n].f1.toList = k.2.toList := by rw [show l[n].f1 = k.2 from congrArg Prod.snd hk]
      exact Ev.step (f := fun _ => some (n : Int)) (fun g => by rw [orielref11_Find.l0, if_pos (by omega), if_pos (by omega), if_pos (by omega), rdB_nat _ _ hlt, if_pos h0, if_pos h1]) (Ev.now _)
    · have hi : idxI (l.take n ++ [l[n]]) k = idxI (l.take n) k := by
        unfold idxI
        rw [lastI_append, hlast, if_neg hk]
      rw [hi]
      have hw : wrap64 ((n : Int) - 1) = (n : Int) - 1 := by unfold wrap64; omega
      refine Ev.step (f := fun g => orielref11_Find.l0 g l k.1 k.2 ((n : Int) - 1)) (fun g => ?_) (ih (by omega))
      rw [orielref11_Find.l0, if_pos (by omega), if_pos (by omega), if_pos (by omega), rdB_nat _ _ hlt, hw]
      by_cases h0 : l[n].f0 = k.1
      · rw [if_pos h0, if_neg]
        intro h1
        apply hk
        have h2 : l[n].f1 = k.2 := by
          rw [ByteArray.toList_eq, ByteArray.toList_eq] at h1
          exact ByteArray.ext (Array.toList_inj.1 h1)
        exact Prod.ext h0 h2
      · rw [if_neg h0]
theorem find_ev (l : List BB) (hl : l.length ≤ 1000000000) (k : EKey) : Ev (fun g => orielref11_Find.f g l k.1 k.2) (idxI l k) := by
  have h := find_loop l hl k l.length (Nat.le_refl _)
  rw [List.take_length] at h
  have hw : wrap64 ((l.length : Int) - 1) = (l.length : Int) - 1 := by unfold wrap64; omega
  unfold orielref11_Find.f
  rw [hw]
  exact h
theorem idx_vis (l : List BB) (n : Nat) (h : n < l.length) : idxI l (keyB l[n]) = (n : Int) ↔ (fnd (l.drop (n + 1)) (keyB l[n])).isSome = false := by
  have hs : l = l.take n ++ l[n] :: l.drop (n + 1) := by rw [← List.drop_eq_getElem_cons h, List.take_append_drop]
  have hl : (l.take n).length = n := by rw [List.length_take]; omega
  generalize hb : l[n] = b at hs ⊢
  generalize l.drop (n + 1) = r at hs ⊢
  generalize l.take n = a at hs hl
  have hr := (lastI_fnd (keyB b) r).1
  unfold idxI
  rw [hs, lastI_append, lastI]
  cases hc : lastI r (keyB b) with
  | some i =>
    have hn : fnd r (keyB b) ≠ none := fun e => by rw [hr.2 e] at hc; cases hc
    dsimp only
    constructor
    · intro e
      rw [hl] at e
      omega
    · intro e
      cases hf : fnd r (keyB b) with
      | some y => rw [hf] at e; cases e
      | none => exact absurd hf hn
  | none =>
    rw [hr.1 hc]
    dsimp only
    rw [if_pos rfl]
    dsimp only
    rw [hl]
    simp
theorem vis_loop (l : List BB) (hl : l.length ≤ 1000000000) : ∀ (d n : Nat) (acc : List BB), l.length - n = d → n ≤ l.length → acc.length ≤ n → Ev (fun k => orielref11_Visible.l0 k l acc (n : Int)) (acc ++ visL (l.drop n)) := by
  intro d
  induction d with
  | zero =>
    intro n acc hd hn ha
    rw [List.drop_of_length_le (by omega)]
    exact Ev.step (f := fun _ => some (acc ++ visL [])) (fun k => by rw [orielref11_Visible.l0, if_neg (by omega), visL, List.append_nil]) (Ev.now _)
  | succ d ih =>
    intro n acc hd hn ha
    have hlt : n < l.length := by omega
    have hiv := idx_vis l n hlt
    rw [List.drop_eq_getElem_cons hlt, visL]
    refine Ev.step (f := fun k => (orielref11_Find.f k l (keyB l[n]).1 (keyB l[n]).2).bind fun t133 => (if t133 = (n : Int) then (if acc.length < 1599289640401 then (orielref11_Visible.l0 k l (acc ++ [l[n]]) ((n + 1 : Nat) : Int)) else (none)) else (orielref11_Visible.l0 k l acc ((n + 1 : Nat) : Int)))) (fun k => by rw [orielref11_Visible.l0, if_pos (by omega), if_pos (by omega), rdB_nat _ _ hlt, wrap_nat n (by omega), eta_b]; rfl) ?_
    refine Ev.bind (f := fun k t133 => (if t133 = (n : Int) then (if acc.length < 1599289640401 then (orielref11_Visible.l0 k l (acc ++ [l[n]]) ((n + 1 : Nat) : Int)) else (none)) else (orielref11_Visible.l0 k l acc ((n + 1 : Nat) : Int)))) (find_ev l hl (keyB l[n])) ?_
    by_cases hv : idxI l (keyB l[n]) = (n : Int)
    · simp only [if_pos hv, if_pos (show acc.length < 1599289640401 by omega), hiv.1 hv, if_neg Bool.false_ne_true]
      have h := ih (n + 1) (acc ++ [l[n]]) (by omega) (by omega) (by rw [List.length_append, List.length_singleton]; omega)
      rw [List.append_assoc] at h
      exact h
    · have hs : (fnd (l.drop (n + 1)) (keyB l[n])).isSome = true := by
        cases hb : (fnd (l.drop (n + 1)) (keyB l[n])).isSome with
        | true => rfl
        | false => exact absurd (hiv.2 hb) hv
      simp only [if_neg hv, hs, if_true]
      exact ih (n + 1) acc (by omega) (by omega) (by omega)
theorem vis_ev (l : List BB) (hl : l.length ≤ 1000000000) : Ev (fun k => orielref11_Visible.f k l) (visL l) := by
  have h := vis_loop l hl l.length 0 [] (by omega) (by omega) (by simp)
  rw [List.drop_zero, List.nil_append] at h
  exact h
/-! #### a match, as the document tells it -/
abbrev RT := List PP × Int × ByteArray × Int × Int × List BB × List BB × Bool
def rr (acc : List PP) : List PP × Option BB → RT
  | (l, none) => (acc ++ l, 0, ⟨#[]⟩, 0, 0, [], [], true)
  | (_, some b) => ([], b.f0, b.f1, b.f2, b.f3, b.f4, b.f5, false)
theorem ref_j1 (m : Nat) (H V : List BB) (n i : Nat) (hn : n < V.length) (hi : i < H.length) (hV : V.length ≤ 1000000000) (acc : List PP) (res : List PP × Option BB) (ih : ∀ r, mB m V[n].f4 H[i].f4 = some r → Ev (fun k => orielref12_Match.f k V[n].f4 H[i].f4) (rr [] r)) (hl : acc.length + res.1.length ≤ 1000000000)
    (next : ∀ acc' u, mBL (mB m) H (V.drop (n + 1)) = some u → acc'.length + u.1.length ≤ 1000000000 → Ev (fun k => orielref12_Match.l0 k H acc' V ((n + 1 : Nat) : Int)) (rr acc' u))
    (h : (if V[n].f0 = 4 then
        (match mB m V[n].f4 H[i].f4 with
        | none => none
        | some (l, some m) => some (l, some m)
        | some (l, none) => (mBL (mB m) H (V.drop (n + 1))).bind fun u => some (l ++ u.1, u.2))
      else mBL (mB m) H (V.drop (n + 1))) = some res) : Ev (fun k => orielref12_Match.j1 k H acc V (n : Int) (i : Int)) (rr acc res) := by
  by_cases h4 : V[n].f0 = 4
  · rw [if_pos h4] at h
    refine Ev.step (f := fun k => (orielref12_Match.f k V[n].f4 H[i].f4).bind fun bt156 => (if bt156.2.2.2.2.2.2.2 = true then (if acc.length + bt156.1.length < 8796093022208 then (orielref12_Match.l0 k H (acc ++ bt156.1) V ((n + 1 : Nat) : Int)) else (none)) else (some (([] : List PP), bt156.2.1, bt156.2.2.1, bt156.2.2.2.1, bt156.2.2.2.2.1, bt156.2.2.2.2.2.1, bt156.2.2.2.2.2.2.1, false)))) (fun k => by rw [orielref12_Match.j1, if_pos (by omega), if_pos (by omega), rdB_nat _ _ hn, if_pos h4, if_pos (by omega), if_pos (by omega), rdB_nat _ _ hi, wrap_nat n (by omega)]) ?_
    cases hg : mB m V[n].f4 H[i].f4 with
    | none => rw [hg] at h; cases h
    | some y =>
      have hy := ih y hg
      rw [hg] at h
      refine Ev.bind (f := fun k (bt156 : RT) => (if bt156.2.2.2.2.2.2.2 = true then (if acc.length + bt156.1.length < 8796093022208 then (orielref12_Match.l0 k H (acc ++ bt156.1) V ((n + 1 : Nat) : Int)) else (none)) else (some (([] : List PP), bt156.2.1, bt156.2.2.1, bt156.2.2.2.1, bt156.2.2.2.2.1, bt156.2.2.2.2.2.1, bt156.2.2.2.2.2.2.1, false)))) hy ?_
      obtain ⟨l, mm⟩ := y
      cases mm with
      | some b =>
        obtain rfl := Option.some.inj h
        simp only [rr]
        exact Ev.now _
      | none =>
        dsimp only at h
        obtain ⟨u, hu, h⟩ := Option.bind_eq_some_iff.1 h
        obtain rfl := Option.some.inj h
        dsimp only at hl
        rw [List.length_append] at hl
        simp only [rr, List.nil_append, if_true]
        refine Ev.congr (f := fun k => orielref12_Match.l0 k H (acc ++ l) V ((n + 1 : Nat) : Int)) (fun k => if_pos (show acc.length + l.length < 8796093022208 by omega)) ?_
        have := next (acc ++ l) u hu (by rw [List.length_append]; omega)
        obtain ⟨u1, u2⟩ := u
        cases u2 with
        | none => simpa only [rr, List.append_assoc] using this
        | some b => exact this
  · rw [if_neg h4] at h
    refine Ev.step (f := fun k => orielref12_Match.l0 k H acc V ((n + 1 : Nat) : Int)) (fun k => by rw [orielref12_Match.j1, if_pos (by omega), if_pos (by omega), rdB_nat _ _ hn, if_neg h4, wrap_nat n (by omega)]) ?_
    exact next acc res h hl
theorem ref_loop (m : Nat) (H V : List BB) (hH : H.length ≤ 1000000000) (hV : V.length ≤ 1000000000) (ih : ∀ b ∈ V, ∀ x ∈ H, ∀ r, mB m b.f4 x.f4 = some r → Ev (fun k => orielref12_Match.f k b.f4 x.f4) (rr [] r)) : ∀ (d n : Nat) (acc : List PP) (res : List PP × Option BB), V.length - n = d → n ≤ V.length →
    mBL (mB m) H (V.drop n) = some res → acc.length + res.1.length ≤ 1000000000 → Ev (fun k => orielref12_Match.l0 k H acc V (n : Int)) (rr acc res) := by
  intro d
  induction d with
  | zero =>
    intro n acc res hd hn h hl
    rw [List.drop_of_length_le (by omega)] at h
    obtain rfl := Option.some.inj h
    exact Ev.step (f := fun _ => some (rr acc ([], none))) (fun k => by rw [orielref12_Match.l0, if_neg (by omega)]; simp only [rr, List.append_nil]) (Ev.now _)
  | succ d ihd =>
    intro n acc res hd hn h hl
    have hlt : n < V.length := by omega
    rw [List.drop_eq_getElem_cons hlt, mBL] at h
    have hf := find_ev H hH (keyB V[n])
    have hif := lastI_fnd (keyB V[n]) H
    cases hx : lastI H (keyB V[n]) with
    | none =>
      rw [hif.1.1 hx] at h
      obtain rfl := Option.some.inj h
      have hi : idxI H (keyB V[n]) = -1 := by unfold idxI; rw [hx]
      rw [hi] at hf
      refine Ev.step (f := fun k => (orielref11_Find.f k H (keyB V[n]).1 (keyB V[n]).2).bind fun t144 => if t144 < 0 then some (rr acc ([], some V[n])) else if 0 ≤ t144 then (if t144 < (H.length : Int) then (if V[n].f2 = (rd_T33 H t144).f2 then (orielref12_Match.j1 k H acc V (n : Int) t144) else (if acc.length < 8796093022208 then (orielref12_Match.j1 k H (acc ++ [(⟨V[n].f2, (rd_T33 H t144).f2⟩ : PP)]) V (n : Int) t144) else (none))) else (none)) else (none)) (fun k => by rw [orielref12_Match.l0, if_pos (by omega), if_pos (by omega), rdB_nat _ _ hlt]; rfl) ?_
      refine Ev.bind (f := fun k t144 => if t144 < 0 then some (rr acc ([], some V[n])) else if 0 ≤ t144 then (if t144 < (H.length : Int) then (if V[n].f2 = (rd_T33 H t144).f2 then (orielref12_Match.j1 k H acc V (n : Int) t144) else (if acc.length < 8796093022208 then (orielref12_Match.j1 k H (acc ++ [(⟨V[n].f2, (rd_T33 H t144).f2⟩ : PP)]) V (n : Int) t144) else (none))) else (none)) else (none)) hf ?_
      simp only [if_pos (show (-1 : Int) < 0 by decide)]
      exact Ev.now _
    | some i =>
      obtain ⟨hi, hfi⟩ := hif.2 i hx
      rw [hfi] at h
      dsimp only at h
      have hidx : idxI H (keyB V[n]) = (i : Int) := by unfold idxI; rw [hx]
      rw [hidx] at hf
      have hj := fun acc' res' hl' h' => ref_j1 m H V n i hlt hi hV acc' res' (fun r hr => ih V[n] (List.getElem_mem hlt) H[i] (List.getElem_mem hi) r hr) hl' (fun acc' u hu hlu => ihd (n + 1) acc' u (by omega) (by omega) hu hlu) h'
      refine Ev.step (f := fun k => (orielref11_Find.f k H (keyB V[n]).1 (keyB V[n]).2).bind fun t144 => if t144 < 0 then some (rr acc ([], some V[n])) else if 0 ≤ t144 then (if t144 < (H.length : Int) then (if V[n].f2 = (rd_T33 H t144).f2 then (orielref12_Match.j1 k H acc V (n : Int) t144) else (if acc.length < 8796093022208 then (orielref12_Match.j1 k H (acc ++ [(⟨V[n].f2, (rd_T33 H t144).f2⟩ : PP)]) V (n : Int) t144) else (none))) else (none)) else (none)) (fun k => by rw [orielref12_Match.l0, if_pos (by omega), if_pos (by omega), rdB_nat _ _ hlt]; rfl) ?_
      refine Ev.bind (f := fun k t144 => if t144 < 0 then some (rr acc ([], some V[n])) else if 0 ≤ t144 then (if t144 < (H.length : Int) then (if V[n].f2 = (rd_T33 H t144).f2 then (orielref12_Match.j1 k H acc V (n : Int) t144) else (if acc.length < 8796093022208 then (orielref12_Match.j1 k H (acc ++ [(⟨V[n].f2, (rd_T33 H t144).f2⟩ : PP)]) V (n : Int) t144) else (none))) else (none)) else (none)) hf ?_
      simp only [if_neg (show ¬ ((i : Int) < 0) by omega), if_pos (show (0 : Int) ≤ (i : Int) by omega), if_pos (show (i : Int) < (H.length : Int) by omega), rdB_nat _ _ hi]
      by_cases he : V[n].f2 = H[i].f2
      · simp only [if_pos he]
        have hp : pairIf V[n].f2 H[i].f2 = [] := by unfold pairIf; rw [if_pos he]
        rw [hp] at h
        refine hj acc res hl ?_
        rw [← h]
        split
        · cases mB m V[n].f4 H[i].f4 with
          | none => rfl
          | some y =>
            obtain ⟨l, mm⟩ := y
            cases mm <;> simp
        · cases mBL (mB m) H (V.drop (n + 1)) <;> simp
      · have hp : pairIf V[n].f2 H[i].f2 = [⟨V[n].f2, H[i].f2⟩] := by unfold pairIf; rw [if_neg he]
        rw [hp] at h
        simp only [if_neg he, if_pos (show acc.length < 8796093022208 by omega)]
        -- the rest, without the first link
        have hc : ∃ res', (if V[n].f0 = 4 then
            (match mB m V[n].f4 H[i].f4 with
            | none => none
            | some (l, some m) => some (l, some m)
            | some (l, none) => (mBL (mB m) H (V.drop (n + 1))).bind fun u => some (l ++ u.1, u.2))
          else mBL (mB m) H (V.drop (n + 1))) = some res' ∧ res = ((⟨V[n].f2, H[i].f2⟩ : PP) :: res'.1, res'.2) := by
          split at h
          · rename_i h4
            rw [if_pos h4]
            cases hg : mB m V[n].f4 H[i].f4 with
            | none => rw [hg] at h; cases h
            | some y =>
              rw [hg] at h
              obtain ⟨l, mm⟩ := y
              cases mm with
              | some b => exact ⟨_, rfl, (Option.some.inj h).symm⟩
              | none =>
                dsimp only at h ⊢
                obtain ⟨u, hu, h⟩ := Option.bind_eq_some_iff.1 h
                rw [hu]
                exact ⟨_, rfl, (Option.some.inj h).symm⟩
          · rename_i h4
            rw [if_neg h4]
            obtain ⟨u, hu, h⟩ := Option.bind_eq_some_iff.1 h
            rw [hu]
            exact ⟨u, rfl, (Option.some.inj h).symm⟩
        obtain ⟨res', h', hres⟩ := hc
        have hlen : acc.length + (res'.1.length + 1) ≤ 1000000000 := by rw [hres] at hl; simpa using hl
        have := hj (acc ++ [(⟨V[n].f2, H[i].f2⟩ : PP)]) res' (by rw [List.length_append, List.length_singleton]; omega) h'
        rw [hres]
        obtain ⟨l', m'⟩ := res'
        cases m' with
        | none => simpa only [rr, List.append_assoc, List.singleton_append] using this
        | some b => exact this
theorem match_ev (m : Nat) : ∀ (s H : List BB) (res : List PP × Option BB), szL s ≤ 4000000 → szL H ≤ 4000000 → mB m s H = some res → Ev (fun k => orielref12_Match.f k s H) (rr [] res) := by
  induction m with
  | zero => intro s H res _ _ h; cases h
  | succ m ih =>
    intro s H res hs hH h
    have h1 := szL_len s
    have h2 := szL_len H
    have h3 := mB_len _ _ _ _ h
    have h4 := Nat.le_trans (szL_len (visL s)) (szL_vis s)
    rw [mB] at h
    refine Ev.step (f := fun k => (orielref11_Visible.f k s).bind fun t139 => (orielref12_Match.l0 k H ([] : List PP) t139 ((0 : Nat) : Int))) (fun k => by rw [orielref12_Match.f]; rfl) ?_
    refine Ev.bind (f := fun k t139 => (orielref12_Match.l0 k H ([] : List PP) t139 ((0 : Nat) : Int))) (vis_ev s (by omega)) ?_
    refine ref_loop m H (visL s) (by omega) (by omega) (fun b hb x hx r hr => ih b.f4 x.f4 r ?_ ?_ hr) _ 0 [] res rfl (Nat.zero_le _) (by rw [List.drop_zero]; exact h) (by simp; omega)
    · have := szB_parts (visL_sub hb); omega
    · have := szB_parts hx; omega
end Go.Proofs.Ytfmbfnjlennfoaa.Nt
