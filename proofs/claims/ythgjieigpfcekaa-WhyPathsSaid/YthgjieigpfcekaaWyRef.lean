/- The document's own functions of paths: what they come to. -/
import Derived.Test.YthgjieigpfcekaaWyEv
import Derived.Test.YthgjieigpfcekaaQWx4
import Derived.Test.YthgjieigpfcekaaQWx5
import Derived.Test.YthgjieigpfcekaaQWx6
import Derived.Test.YthgjieigpfcekaaQWx7
import Derived.Test.YthgjieigpfcekaaQWx8
namespace Go.Proofs.Ythgjieigpfcekaa.Gr
open Go.RowKit Go.Proofs.Ythgjieigpfcekaa.QW Go.Proofs.YthgjieigpfcekaaW.PrintWords Go.Proofs.YthgjieigpfcekaaW.PrintLast Go.Proofs.YthgjieigpfcekaaW.PrintMore
set_option linter.unusedVariables false
theorem Ev.via {α β : Type} {g : Nat → Option α} {h : Nat → Option β} {f : Nat → β → Option α} {b : β} {r : α} (e : ∀ k, g (k + 1) = (h k).bind (f k)) (hb : Ev h b) (hf : Ev (fun k => f k b) r) : Ev g r := Ev.step e (Ev.bind hb hf)
theorem nodup_sub_len : ∀ (l S : List Int), l.Nodup → (∀ x ∈ l, x ∈ S) → l.length ≤ S.length
  | [], S, _, _ => Nat.zero_le _
  | x :: r, S, hn, hs => by
    have hx : x ∈ S := hs x (List.mem_cons_self ..)
    rw [List.nodup_cons] at hn
    have h1 := nodup_sub_len r (S.erase x) hn.2 fun y hy => (List.mem_erase_of_ne (by rintro rfl; exact hn.1 hy)).2 (hs y (List.mem_cons_of_mem _ hy))
    rw [List.length_erase_of_mem hx] at h1
    have := List.length_pos_of_mem hx
    simp only [List.length_cons]
    omega
theorem rise_nodup {l : List Int} (h : RiseI l) : l.Nodup := h.imp fun h => by omega
/-- A number, put where it belongs. -/
theorem put_spec (l : List Int) (n : Int) (j : Nat) (hl : RiseI l) (hn : n ∉ l) (hj : j ≤ l.length) (hhi : ∀ x ∈ l.drop j, n < x) (hlo : ∀ h : 0 < j, l[j - 1]'(by omega) ≤ n) :
    RiseI (l.take j ++ n :: l.drop j) ∧ ∀ x, x ∈ l.take j ++ n :: l.drop j ↔ x = n ∨ x ∈ l := by
  have hmem : ∀ x, x ∈ l.take j ++ n :: l.drop j ↔ x = n ∨ x ∈ l := by
    intro x
    conv => rhs; rw [← List.take_append_drop j l]
    simp only [List.mem_append, List.mem_cons]
    constructor
    · rintro (h | h | h)
      · exact .inr (.inl h)
      · exact .inl h
      · exact .inr (.inr h)
    · rintro (h | h | h)
      · exact .inr (.inl h)
      · exact .inl h
      · exact .inr (.inr h)
  have hlow : ∀ x ∈ l.take j, x < n := by
    intro x hx
    rcases Nat.eq_zero_or_pos j with h0 | h0
    · subst h0
      cases hx
    · have h1 := hlo h0
      have h2 : l[j - 1]'(by omega) ≠ n := fun e => hn (by rw [← e]; exact List.getElem_mem _)
      obtain ⟨i, hi, rfl⟩ := List.getElem_of_mem hx
      rw [List.length_take] at hi
      rw [List.getElem_take]
      rcases Nat.lt_or_ge i (j - 1) with h | h
      · have := List.pairwise_iff_getElem.1 hl i (j - 1) (by omega) (by omega) h
        omega
      · have : i = j - 1 := by omega
        subst this
        omega
  refine ⟨List.pairwise_append.2 ⟨hl.sublist (List.take_sublist _ _), List.pairwise_cons.2 ⟨hhi, hl.sublist (List.drop_sublist _ _)⟩, fun x hx y hy => ?_⟩, hmem⟩
  rcases List.mem_cons.1 hy with rfl | hy
  · exact hlow x hx
  · have := hlow x hx
    have := hhi y hy
    omega
theorem find_drop (q : Int → Bool) (l : List Int) (n : Nat) (h : n < l.length) : (l.drop n).find? q = if q l[n] = true then some l[n] else (l.drop (n + 1)).find? q := by
  rw [List.drop_eq_getElem_cons h, List.find?_cons]
  cases q l[n] <;> rfl
theorem put_loop (l : List Int) (n : Int) (hl : RiseI l) (hn : n ∉ l) (hb : l.length ≤ 1000000000) : ∀ m : Nat, m ≤ l.length → (∀ x ∈ l.drop m, n < x) →
    ∃ r, Ev (fun k => orielref32_put.l0 k l n (m : Int)) r ∧ RiseI r ∧ (∀ x, x ∈ r ↔ x = n ∨ x ∈ l) ∧ r.length ≤ l.length + 1
  | 0, hm, hh => by
    obtain ⟨h1, h2⟩ := put_spec l n 0 hl hn hm hh (fun h => absurd h (by omega))
    refine ⟨_, Ev.step (f := fun _ => some (l.take 0 ++ n :: l.drop 0)) (fun k => ?_) (Ev.now _), h1, h2, by simp⟩
    rw [orielref32_put.l0, if_neg (by omega)]
    simp only [Option.bind_some]
    rw [if_pos (by omega), if_pos (by omega), if_pos (by simp), if_pos (by simp), if_pos (by simp; omega)]
    simp
  | m + 1, hm, hh => by
    have hlt : m < l.length := by omega
    have hw : wrap64 (((m + 1 : Nat) : Int) - 1) = (m : Int) := by unfold wrap64; omega
    by_cases hc : l[m] > n
    · obtain ⟨r, h1, h2⟩ := put_loop l n hl hn hb m (by omega) (by
        intro x hx
        rw [List.drop_eq_getElem_cons hlt] at hx
        rcases List.mem_cons.1 hx with rfl | hx
        · exact hc
        · exact hh x hx)
      refine ⟨r, Ev.step (f := fun k => orielref32_put.l0 k l n (m : Int)) (fun k => ?_) h1, h2⟩
      rw [orielref32_put.l0, if_pos (by omega), hw, if_pos (by omega), if_pos (by omega), rd_nat _ _ hlt, if_pos hc]
    · obtain ⟨h1, h2⟩ := put_spec l n (m + 1) hl hn hm hh (fun h => by
        have e : m + 1 - 1 = m := by omega
        simp only [e]
        omega)
      refine ⟨_, Ev.step (f := fun _ => some (l.take (m + 1) ++ n :: l.drop (m + 1))) (fun k => ?_) (Ev.now _), h1, h2, by simp; omega⟩
      rw [orielref32_put.l0, if_pos (by omega), hw, if_pos (by omega), if_pos (by omega), rd_nat _ _ hlt, if_neg hc]
      simp only [Option.bind_some, Int.toNat_natCast]
      rw [if_pos (by omega), if_pos (by omega), if_pos (by simp; omega), if_pos (by simp; omega), if_pos (by simp; omega)]
      simp
theorem put_ev (l : List Int) (n : Int) (hl : RiseI l) (hb : l.length ≤ 1000000000) : ∃ r, Ev (fun k => orielref32_put.f k l n) r ∧ RiseI r ∧ (∀ x, x ∈ r ↔ x = n ∨ x ∈ l) ∧ r.length ≤ l.length + 1 := by
  unfold orielref32_put.f
  have hi := in_ev l hb n
  cases hc : l.contains n with
  | true =>
    rw [hc] at hi
    refine ⟨l, Ev.bind hi ?_, hl, fun x => ⟨.inr, ?_⟩, by omega⟩
    · simp only [if_true]
      exact Ev.now _
    · rintro (rfl | h)
      · exact List.contains_iff_mem.1 hc
      · exact h
  | false =>
    rw [hc] at hi
    have hn : n ∉ l := fun h => by rw [List.contains_iff_mem.2 h] at hc; cases hc
    obtain ⟨r, h1, h2⟩ := put_loop l n hl hn hb l.length (Nat.le_refl _) (by rw [List.drop_length]; intro x hx; cases hx)
    refine ⟨r, Ev.bind hi ?_, h2⟩
    simp only [if_neg Bool.false_ne_true]
    exact h1
theorem all_l1 (E : List Int) (L : List PP) (V : List Int) (hE : E.length ≤ 1000000) : ∀ (d i : Nat) (acc : List Int), E.length - i = d → i ≤ E.length → RiseI acc → acc.length + d ≤ 100000000 →
    ∃ r, Ev (fun k => orielref32_All.l1 k acc (i : Int) E L V) r ∧ RiseI r ∧ (∀ x, x ∈ r ↔ x ∈ acc ∨ x ∈ E.drop i) ∧ r.length ≤ acc.length + d
  | 0, i, acc, hd, hi, ha, hb => by
    refine ⟨acc, Ev.step (f := fun _ => some acc) (fun k => by rw [orielref32_All.l1, if_neg (by omega)]) (Ev.now _), ha, fun x => ?_, by omega⟩
    rw [List.drop_of_length_le (by omega)]
    simp
  | d + 1, i, acc, hd, hi, ha, hb => by
    have hlt : i < E.length := by omega
    obtain ⟨r1, e1, s1, m1, l1⟩ := put_ev acc E[i] ha (by omega)
    obtain ⟨r2, e2, s2, m2, l2⟩ := all_l1 E L V hE d (i + 1) r1 (by omega) (by omega) s1 (by omega)
    refine ⟨r2, Ev.via (fun k => by rw [orielref32_All.l1, if_pos (by omega), if_pos (by omega), rd_nat _ _ hlt]) e1 (by rw [wrap_nat i (by omega)]; exact e2), s2, fun x => ?_, by omega⟩
    rw [m2, m1, List.drop_eq_getElem_cons hlt, List.mem_cons]
    constructor
    · rintro ((h | h) | h)
      · exact .inr (.inl h)
      · exact .inl h
      · exact .inr (.inr h)
    · rintro (h | h | h)
      · exact .inl (.inr h)
      · exact .inl (.inl h)
      · exact .inr h
theorem all_l0 (E : List Int) (L : List PP) (V : List Int) (hE : E.length ≤ 1000000) (hL : L.length ≤ 1000000) : ∀ (d i : Nat) (acc : List Int), L.length - i = d → i ≤ L.length → RiseI acc → acc.length + 2 * d + E.length ≤ 100000000 →
    ∃ r, Ev (fun k => orielref32_All.l0 k acc (i : Int) E L V) r ∧ RiseI r ∧ (∀ x, x ∈ r ↔ x ∈ acc ∨ x ∈ endsL (L.drop i) ∨ x ∈ E) ∧ r.length ≤ acc.length + 2 * d + E.length
  | 0, i, acc, hd, hi, ha, hb => by
    obtain ⟨r, e, s, m, l⟩ := all_l1 E L V hE E.length 0 acc (by omega) (by omega) ha (by omega)
    refine ⟨r, Ev.step (f := fun k => orielref32_All.l1 k acc ((0 : Nat) : Int) E L V) (fun k => by rw [orielref32_All.l0, if_neg (by omega)]; rfl) e, s, fun x => ?_, by omega⟩
    rw [m, List.drop_of_length_le (by omega : L.length ≤ i)]
    simp [endsL]
  | d + 1, i, acc, hd, hi, ha, hb => by
    have hlt : i < L.length := by omega
    obtain ⟨r1, e1, s1, m1, l1⟩ := put_ev acc L[i].f0 ha (by omega)
    obtain ⟨r2, e2, s2, m2, l2⟩ := put_ev r1 L[i].f1 s1 (by omega)
    obtain ⟨r3, e3, s3, m3, l3⟩ := all_l0 E L V hE hL d (i + 1) r2 (by omega) (by omega) s2 (by omega)
    refine ⟨r3, Ev.via (f := fun k t => (orielref32_put.f k t L[i].f1).bind fun t' => orielref32_All.l0 k t' ((i + 1 : Nat) : Int) E L V) (fun k => by rw [orielref32_All.l0, if_pos (by omega), if_pos (by omega), rdP_nat _ _ hlt, wrap_nat i (by omega)]) e1 (Ev.bind e2 e3), s3, fun x => ?_, by omega⟩
    have hends : endsL (L.drop i) = L[i].f0 :: L[i].f1 :: endsL (L.drop (i + 1)) := by
      rw [List.drop_eq_getElem_cons hlt]
      rfl
    rw [m3, m2, m1, hends, List.mem_cons, List.mem_cons]
    constructor
    · rintro ((h | h | h) | h | h)
      · exact .inr (.inl (.inr (.inl h)))
      · exact .inr (.inl (.inl h))
      · exact .inl h
      · exact .inr (.inl (.inr (.inr h)))
      · exact .inr (.inr h)
    · rintro (h | (h | h | h) | h)
      · exact .inl (.inr (.inr h))
      · exact .inl (.inr (.inl h))
      · exact .inl (.inl h)
      · exact .inr (.inl h)
      · exact .inr (.inr h)
theorem all_ev (E : List Int) (L : List PP) (V : List Int) (hE : E.length ≤ 1000000) (hL : L.length ≤ 1000000) : ∃ r, Ev (fun k => orielref32_All.f k E L V) r ∧ RiseI r ∧ (∀ x, x ∈ r ↔ x ∈ endsL L ∨ x ∈ E) ∧ r.length ≤ 10000000 := by
  obtain ⟨r, e, s, m, l⟩ := all_l0 E L V hE hL L.length 0 [] (by omega) (by omega) List.Pairwise.nil (by simp only [List.length_nil]; omega)
  refine ⟨r, e, s, fun x => ?_, by simp only [List.length_nil] at l; omega⟩
  rw [m, List.drop_zero]
  simp
def nearQ (a b : Int) (p : PP) : Bool := decide (a ≠ b ∧ ((p.f0 = a ∧ p.f1 = b) ∨ (p.f0 = b ∧ p.f1 = a)))
def nearT (L : List PP) (a b : Int) : Bool := L.any (nearQ a b)
theorem nearT_iff (L : List PP) (a b : Int) : nearT L a b = true ↔ nearB L a b := by
  unfold nearT nearB
  rw [List.any_eq_true]
  constructor
  · rintro ⟨p, hp, h⟩
    obtain ⟨h1, h2⟩ := of_decide_eq_true h
    exact ⟨fun e => h1 e.symm, p, hp, by rcases h2 with ⟨e1, e2⟩ | ⟨e1, e2⟩; exact .inl ⟨e1, e2⟩; exact .inr ⟨e2, e1⟩⟩
  · rintro ⟨h1, p, hp, h2⟩
    exact ⟨p, hp, decide_eq_true ⟨fun e => h1 e.symm, by rcases h2 with ⟨e1, e2⟩ | ⟨e1, e2⟩; exact .inl ⟨e1, e2⟩; exact .inr ⟨e2, e1⟩⟩⟩
theorem near_step (E : List Int) (L : List PP) (V : List Int) (a b : Int) (n : Nat) (hn : n < L.length) (hL : L.length ≤ 1000000) (k : Nat) :
    orielref32_near.l0 (k + 1) a b (n : Int) E L V = if nearQ a b L[n] = true then some true else orielref32_near.l0 k a b ((n + 1 : Nat) : Int) E L V := by
  rw [orielref32_near.l0, if_pos (by omega), if_pos (by omega), rdP_nat _ _ hn, wrap_nat n (by omega)]
  unfold nearQ
  generalize L[n] = p
  obtain ⟨x, y⟩ := p
  dsimp only
  simp only [decide_eq_true_eq]
  (repeat' split) <;> first | rfl | (exfalso; omega)
theorem near_loop (E : List Int) (L : List PP) (V : List Int) (a b : Int) (hL : L.length ≤ 1000000) : ∀ d n : Nat, L.length - n = d → n ≤ L.length → Ev (fun k => orielref32_near.l0 k a b (n : Int) E L V) ((L.drop n).any (nearQ a b)) := by
  intro d
  induction d with
  | zero =>
    intro n hd hn
    rw [List.drop_of_length_le (by omega)]
    exact Ev.step (f := fun _ => some false) (fun k => by rw [orielref32_near.l0, if_neg (by omega)]) (Ev.now _)
  | succ d ih =>
    intro n hd hn
    have hlt : n < L.length := by omega
    rw [List.drop_eq_getElem_cons hlt, List.any_cons]
    cases hq : nearQ a b L[n] with
    | true => exact Ev.step (f := fun _ => some true) (fun k => by rw [near_step E L V a b n hlt hL, if_pos hq]) (Ev.now _)
    | false => exact Ev.step (f := fun k => orielref32_near.l0 k a b ((n + 1 : Nat) : Int) E L V) (fun k => by rw [near_step E L V a b n hlt hL, hq, if_neg Bool.false_ne_true]) (ih (n + 1) (by omega) (by omega))
theorem near_ev (E : List Int) (L : List PP) (V : List Int) (a b : Int) (hL : L.length ≤ 1000000) : Ev (fun k => orielref32_near.f k E L V a b) (nearT L a b) := near_loop E L V a b hL L.length 0 (by omega) (by omega)
theorem nearL_loop (E : List Int) (L : List PP) (V : List Int) (a : Int) (hL : L.length ≤ 1000000) (all : List Int) (hall : all.length ≤ 10000000) : ∀ (d n : Nat) (acc : List Int), all.length - n = d → n ≤ all.length → acc.length + d ≤ 100000000 →
    Ev (fun k => orielref32_Near.l0 k a acc all (n : Int) E L V) (acc ++ (all.drop n).filter (nearT L a)) := by
  intro d
  induction d with
  | zero =>
    intro n acc hd hn hb
    rw [List.drop_of_length_le (by omega), List.filter_nil, List.append_nil]
    exact Ev.step (f := fun _ => some acc) (fun k => by rw [orielref32_Near.l0, if_neg (by omega)]) (Ev.now _)
  | succ d ih =>
    intro n acc hd hn hb
    have hlt : n < all.length := by omega
    rw [List.drop_eq_getElem_cons hlt, List.filter_cons]
    refine Ev.via (fun k => by rw [orielref32_Near.l0, if_pos (by omega), if_pos (by omega), rd_nat _ _ hlt]) (near_ev E L V a all[n] hL) ?_
    rw [wrap_nat n (by omega)]
    cases hq : nearT L a all[n] with
    | true =>
      simp only [if_true, if_pos (show acc.length < 17592186044416 by omega)]
      have := ih (n + 1) (acc ++ [all[n]]) (by omega) (by omega) (by simp; omega)
      rw [List.append_assoc] at this
      exact this
    | false =>
      simp only [if_neg Bool.false_ne_true]
      exact ih (n + 1) acc (by omega) (by omega) (by omega)
/-- The document's Near is the program's. -/
theorem nearD_ev (E : List Int) (L : List PP) (V : List Int) (a : Int) (hE : E.length ≤ 1000000) (hL : L.length ≤ 1000000) : Ev (fun k => orielref32_Near.f k E L V a) (nearL L a) := by
  obtain ⟨r, e, s, m, l⟩ := all_ev E L V hE hL
  unfold orielref32_Near.f
  refine Ev.bind e ?_
  have h := nearL_loop E L V a hL r l r.length 0 [] (by omega) (by omega) (by simp only [List.length_nil]; omega)
  rw [List.drop_zero, List.nil_append] at h
  rw [show r.filter (nearT L a) = nearL L a from riseI_ext _ _ (s.filter _) (nearL_rise L a) fun x => by
    rw [List.mem_filter, nearT_iff, nearL_mem, m]
    exact ⟨fun h => h.2, fun h => ⟨.inl (nearB_ends h), h⟩⟩] at h
  exact h
theorem farD_l2 (E : List Int) (L : List PP) (V : List Int) (b : Int) (met : List Int) (hm : met.length ≤ 100000000) (r i : Int) (l : List Int) (hl : l.length ≤ 100000000) (res : Int) : ∀ (d n : Nat) (more : List Int), l.length - n = d → n ≤ l.length → RiseI more → more.length + d ≤ 100000000 →
    (∀ more' : List Int, RiseI more' → (∀ x, x ∈ more' ↔ x ∈ more ∨ (x ∈ l.drop n ∧ x ∉ met)) → more'.length ≤ more.length + d → Ev (fun k => orielref32_Far.l1 k b met r more' (wrap64 (i + 1)) E L V) res) →
    Ev (fun k => orielref32_Far.l2 k b met r more i l (n : Int) E L V) res := by
  intro d
  induction d with
  | zero =>
    intro n more hd hn hr hb h
    refine Ev.step (f := fun k => orielref32_Far.l1 k b met r more (wrap64 (i + 1)) E L V) (fun k => by rw [orielref32_Far.l2, if_neg (by omega)]) (h more hr (fun x => ?_) (by omega))
    rw [List.drop_of_length_le (by omega)]
    simp
  | succ d ih =>
    intro n more hd hn hr hb h
    have hlt : n < l.length := by omega
    refine Ev.via (fun k => by rw [orielref32_Far.l2, if_pos (by omega), if_pos (by omega), rd_nat _ _ hlt]) (in_ev met (by omega) l[n]) ?_
    rw [wrap_nat n (by omega)]
    cases hc : met.contains l[n] with
    | true =>
      simp only [if_true]
      refine ih (n + 1) more (by omega) (by omega) hr (by omega) fun more' h1 h2 h3 => h more' h1 (fun x => ?_) (by omega)
      rw [h2, List.drop_eq_getElem_cons hlt, List.mem_cons]
      constructor
      · rintro (h | ⟨h, h'⟩)
        · exact .inl h
        · exact .inr ⟨.inr h, h'⟩
      · rintro (h | ⟨rfl | h, h'⟩)
        · exact .inl h
        · exact absurd (List.contains_iff_mem.1 hc) h'
        · exact .inr ⟨h, h'⟩
    | false =>
      simp only [if_neg Bool.false_ne_true]
      have hnm : l[n] ∉ met := fun h => by rw [List.contains_iff_mem.2 h] at hc; cases hc
      obtain ⟨r1, e1, s1, m1, l1⟩ := put_ev more l[n] hr (by omega)
      refine Ev.bind e1 (ih (n + 1) r1 (by omega) (by omega) s1 (by omega) fun more' h1 h2 h3 => h more' h1 (fun x => ?_) (by omega))
      rw [h2, m1, List.drop_eq_getElem_cons hlt, List.mem_cons]
      constructor
      · rintro ((rfl | h) | ⟨h, h'⟩)
        · exact .inr ⟨.inl rfl, hnm⟩
        · exact .inl h
        · exact .inr ⟨.inr h, h'⟩
      · rintro (h | ⟨rfl | h, h'⟩)
        · exact .inl (.inr h)
        · exact .inl (.inl rfl)
        · exact .inr ⟨h, h'⟩
theorem farD_l1 (E : List Int) (L : List PP) (V : List Int) (hE : E.length ≤ 1000000) (hL : L.length ≤ 1000) (b : Int) (met : List Int) (hm : met.length ≤ 2001) (r : Int) (res : Int) : ∀ (d i : Nat) (more : List Int), met.length - i = d → i ≤ met.length → RiseI more → more.length + d * 2000 ≤ 10000000 →
    (∀ more' : List Int, RiseI more' → (∀ x, x ∈ more' ↔ x ∈ more ∨ ((∃ y ∈ met.drop i, nearB L y x) ∧ x ∉ met)) → more'.length ≤ 10000000 → Ev (fun k => orielref32_Far.l0 k b (met ++ more') (wrap64 (r + 1)) E L V) res) →
    Ev (fun k => orielref32_Far.l1 k b met r more (i : Int) E L V) res := by
  intro d
  induction d with
  | zero =>
    intro i more hd hi hr hb h
    refine Ev.step (f := fun k => orielref32_Far.l0 k b (met ++ more) (wrap64 (r + 1)) E L V) (fun k => by rw [orielref32_Far.l1, if_neg (by omega), if_pos (by omega)]) (h more hr (fun x => ?_) (by omega))
    rw [List.drop_of_length_le (by omega)]
    simp
  | succ d ih =>
    intro i more hd hi hr hb h
    have hlt : i < met.length := by omega
    have hnl := near_len L met[i]
    refine Ev.via (fun k => by rw [orielref32_Far.l1, if_pos (by omega), if_pos (by omega), rd_nat _ _ hlt]) (nearD_ev E L V met[i] hE (by omega)) ?_
    refine farD_l2 E L V b met (by omega) r (i : Int) (nearL L met[i]) (by omega) res _ 0 more rfl (by omega) hr (by omega) fun more1 s1 m1 l1 => ?_
    rw [wrap_nat i (by omega)]
    refine ih (i + 1) more1 (by omega) (by omega) s1 (by omega) fun more' h1 h2 h3 => h more' h1 (fun x => ?_) h3
    rw [h2, m1, List.drop_zero, nearL_mem, List.drop_eq_getElem_cons hlt]
    constructor
    · rintro ((h | ⟨h, h'⟩) | ⟨⟨y, hy, h⟩, h'⟩)
      · exact .inl h
      · exact .inr ⟨⟨_, List.mem_cons_self .., h⟩, h'⟩
      · exact .inr ⟨⟨y, List.mem_cons_of_mem _ hy, h⟩, h'⟩
    · rintro (h | ⟨⟨y, hy, h⟩, h'⟩)
      · exact .inl (.inl h)
      · rcases List.mem_cons.1 hy with rfl | hy
        · exact .inl (.inr ⟨h, h'⟩)
        · exact .inr ⟨⟨y, hy, h⟩, h'⟩
theorem walk_ends {L : List PP} {a x : Int} : ∀ {m : Nat}, walk L m a x → x ∈ a :: endsL L
  | 0, h => by rw [← (show a = x from h)]; exact List.mem_cons_self ..
  | m + 1, ⟨c, _, h⟩ => List.mem_cons_of_mem _ (nearB_ends h)
theorem farD_l0 (E : List Int) (L : List PP) (V : List Int) (hE : E.length ≤ 1000000) (hL : L.length ≤ 1000) (a b : Int) : ∀ (d r : Nat) (met : List Int), L.length + 2 - r = d → r ≤ L.length + 2 → met.Nodup → (∀ x, x ∈ met ↔ ∃ m, m ≤ r ∧ walk L m a x) → (∀ m, m < r → ¬ walk L m a b) →
    Ev (fun k => orielref32_Far.l0 k b met (r : Int) E L V) (farZ L a b) := by
  intro d
  induction d with
  | zero =>
    intro r met hd hr hn hm hb
    have hz : farZ L a b = -1 := farZ_none fun ⟨n, h⟩ => by
      have := isD_le h
      exact hb n (by omega) h.1
    rw [hz]
    have hw : wrap64 ((L.length : Int) + 1) = (L.length : Int) + 1 := by unfold wrap64; omega
    exact Ev.step (f := fun _ => some (-1)) (fun k => by rw [orielref32_Far.l0, hw, if_neg (by omega)]) (Ev.now _)
  | succ d ih =>
    intro r met hd hr hn hm hb
    have hlen : met.length ≤ 2001 := by
      have := nodup_sub_len met (a :: endsL L) hn fun x hx => by
        obtain ⟨m, _, h⟩ := (hm x).1 hx
        exact walk_ends h
      simp only [List.length_cons, ends_len] at this
      omega
    have hw : wrap64 ((L.length : Int) + 1) = (L.length : Int) + 1 := by unfold wrap64; omega
    refine Ev.via (fun k => by rw [orielref32_Far.l0, hw, if_pos (by omega)]) (in_ev met (by omega) b) ?_
    cases hc : met.contains b with
    | true =>
      simp only [if_true]
      obtain ⟨m, h1, h2⟩ := (hm b).1 (List.contains_iff_mem.1 hc)
      have hmr : m = r := by
        rcases Nat.lt_or_ge m r with h | h
        · exact absurd h2 (hb m h)
        · omega
      subst hmr
      rw [farZ_some ⟨h2, hb⟩]
      exact Ev.now _
    | false =>
      simp only [if_neg Bool.false_ne_true]
      have hnb : b ∉ met := fun h => by rw [List.contains_iff_mem.2 h] at hc; cases hc
      refine farD_l1 E L V hE hL b met hlen (r : Int) _ met.length 0 [] (by omega) (by omega) List.Pairwise.nil (by simp only [List.length_nil]; omega) fun more s1 m1 l1 => ?_
      rw [wrap_nat r (by omega)]
      simp only [List.drop_zero, List.not_mem_nil, false_or] at m1
      refine ih (r + 1) (met ++ more) (by omega) (by omega) (List.nodup_append.2 ⟨hn, rise_nodup s1, fun x hx y hy e => ?_⟩) (fun x => ?_) fun m hlt hwk => ?_
      · subst e
        exact ((m1 x).1 hy).2 hx
      · rw [List.mem_append, m1, hm]
        constructor
        · rintro (⟨m, h1, h2⟩ | ⟨⟨y, hy, h⟩, _⟩)
          · exact ⟨m, by omega, h2⟩
          · obtain ⟨m, h1, h2⟩ := (hm y).1 hy
            exact ⟨m + 1, by omega, y, h2, h⟩
        · rintro ⟨m, h1, h2⟩
          by_cases hx : ∃ m, m ≤ r ∧ walk L m a x
          · exact .inl hx
          · right
            obtain rfl : m = r + 1 := by
              rcases Nat.lt_or_ge m (r + 1) with h | h
              · exact absurd ⟨m, by omega, h2⟩ hx
              · omega
            obtain ⟨c, h3, h4⟩ := h2
            exact ⟨⟨c, (hm c).2 ⟨r, Nat.le_refl _, h3⟩, h4⟩, hx⟩
      · exact hnb ((hm b).2 ⟨m, by omega, hwk⟩)
/-- How far it is, as the document tells it. -/
theorem farD_ev (E : List Int) (L : List PP) (V : List Int) (hE : E.length ≤ 1000000) (hL : L.length ≤ 1000) (a b : Int) : Ev (fun k => orielref32_Far.f k E L V a b) (farZ L a b) :=
  farD_l0 E L V hE hL a b (L.length + 2) 0 [a] (by omega) (by omega) (by simp) (fun x => by
    rw [List.mem_singleton]
    constructor
    · rintro rfl
      exact ⟨0, Nat.le_refl _, rfl⟩
    · rintro ⟨m, h1, h2⟩
      obtain rfl : m = 0 := by omega
      exact (show a = x from h2).symm) (fun m h => by omega)
theorem firstD_ev (E : List Int) (L : List PP) (V : List Int) (hE : E.length ≤ 1000000) (hL : L.length ≤ 1000) (b : Int) : ∀ (n : Nat) (a : Int), isD L a b n → Ev (fun k => orielref32_first.f k E L V a b (n : Int)) (pathZ L b n a) := by
  intro n
  induction n with
  | zero =>
    intro a h
    refine Ev.step (f := fun _ => some [a]) (fun k => ?_) (Ev.now _)
    rw [orielref32_first.f, if_pos (by rfl), if_pos (show a = b from h.1)]
  | succ n ih =>
    intro a h
    obtain ⟨h1, h2, h3⟩ := nextZ_spec h
    have hle := isD_le h
    refine Ev.via (fun k => by rw [orielref32_first.f, if_neg (by omega)]) (nearD_ev E L V a hE (by omega)) ?_
    have hw : wrap64 (((n + 1 : Nat) : Int) - 1) = (n : Int) := by unfold wrap64; omega
    have hnl := near_len L a
    have hloop : ∀ d i : Nat, (nearL L a).length - i = d → i ≤ (nearL L a).length → ((nearL L a).drop i).find? (fun x => decide (farZ L x b = n)) = some (nextZ L b n a) →
        Ev (fun k => orielref32_first.l0 k a b ((n + 1 : Nat) : Int) (nearL L a) (i : Int) E L V) (a :: pathZ L b n (nextZ L b n a)) := by
      intro d
      induction d with
      | zero =>
        intro i hd hi hf
        rw [List.drop_of_length_le (by omega)] at hf
        cases hf
      | succ d ihd =>
        intro i hd hi hf
        have hlt : i < (nearL L a).length := by omega
        rw [find_drop _ _ _ hlt] at hf
        refine Ev.via (fun k => by rw [orielref32_first.l0, if_pos (by omega), if_pos (by omega), rd_nat _ _ hlt]) (farD_ev E L V hE hL (nearL L a)[i] b) ?_
        rw [hw, wrap_nat i (by omega)]
        by_cases hq : farZ L (nearL L a)[i] b = n
        · rw [if_pos (decide_eq_true hq)] at hf
          have hx := Option.some.inj hf
          simp only [if_pos hq]
          rw [hx]
          refine Ev.bind (ih _ h3) ?_
          have hl := pathZ_len L b n (nextZ L b n a)
          simp only [hl, if_pos (show (((n + 1 : Nat) : Int)) > 0 by omega), Option.bind_some, List.length_singleton, if_pos (show 1 + (n + 1) < 17592186044416 by omega), List.singleton_append]
          exact Ev.now _
        · rw [if_neg (by rw [decide_eq_true_eq]; exact hq)] at hf
          simp only [if_neg hq]
          exact ihd (i + 1) (by omega) (by omega) hf
    have := hloop _ 0 rfl (by omega) h1
    rw [pathZ]
    exact this
/-- The document's Path is the program's. -/
theorem pathD_ev (E : List Int) (L : List PP) (V : List Int) (hE : E.length ≤ 1000000) (hL : L.length ≤ 1000) (a b : Int) : Ev (fun k => orielref32_Path.f k E L V a b) (pathV E L a b) := by
  unfold orielref32_Path.f pathV
  have bad : Ev (fun k => orielref32_Path.j0 k a b true E L V) ([], false) := Ev.step (f := fun _ => some ([], false)) (fun k => by rw [orielref32_Path.j0, if_pos rfl]) (Ev.now _)
  by_cases h1 : a < 0
  · simp only [if_pos h1]
    rw [if_neg (fun h => by omega)]
    exact bad
  simp only [if_neg h1]
  by_cases h2 : b < 0
  · simp only [if_pos h2]
    rw [if_neg (fun h => by omega)]
    exact bad
  simp only [if_neg h2]
  by_cases h3 : a ≥ (E.length : Int)
  · simp only [if_pos h3]
    rw [if_neg (fun h => by omega)]
    exact bad
  simp only [if_neg h3]
  by_cases h4 : b ≥ (E.length : Int)
  · rw [decide_eq_true h4, if_neg (fun h => by omega)]
    exact bad
  rw [decide_eq_false h4]
  have hin : (0 ≤ a ∧ a < (E.length : Int)) ∧ 0 ≤ b ∧ b < (E.length : Int) := by omega
  refine Ev.via (fun k => by rw [orielref32_Path.j0, if_neg Bool.false_ne_true, if_pos hin.1.1, if_pos hin.1.2, if_pos hin.2.1, if_pos hin.2.2]) (farD_ev E L V hE hL (rd E a) (rd E b)) ?_
  rcases farZ_cases L (rd E a) (rd E b) with ⟨n, hn, e⟩ | ⟨hn, e⟩
  · rw [e, if_pos ⟨hin, by omega⟩, Int.toNat_natCast]
    simp only [if_neg (show ¬ (n : Int) < 0 by omega)]
    exact Ev.bind (firstD_ev E L V hE hL (rd E b) n (rd E a) hn) (Ev.now _)
  · rw [e, if_neg (fun h => by omega)]
    simp only [if_pos (show (-1 : Int) < 0 by omega)]
    exact Ev.now _
end Go.Proofs.Ythgjieigpfcekaa.Gr
