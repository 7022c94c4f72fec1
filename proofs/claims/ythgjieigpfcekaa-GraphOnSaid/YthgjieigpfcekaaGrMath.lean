/- Graphs' plain mathematics: what is linked to what; families; pairs in order. -/
import Derived.Test.YthgjieigpfcekaaQGx0
import Derived.Test.YthgjieigpfcekaaQGx3
import Derived.Test.YthgjieigpfcekaaQGx5
namespace Go.Proofs.Ythgjieigpfcekaa.Gr
open Go.RowKit Go.Proofs.Ythgjieigpfcekaa.QG Go.Proofs.YthgjieigpfcekaaW.PrintWords Go.Proofs.YthgjieigpfcekaaW.PrintLast
abbrev PP := S34
/-- b is linked to a, by any links. -/
inductive Conn (L : List PP) (a : Int) : Int → Prop where
  | refl : Conn L a a
  | fwd (p : PP) (h : Conn L a p.f0) (hp : p ∈ L) : Conn L a p.f1
  | bwd (p : PP) (h : Conn L a p.f1) (hp : p ∈ L) : Conn L a p.f0
theorem Conn.trans {L : List PP} {a b c : Int} (h : Conn L a b) (k : Conn L b c) : Conn L a c := by
  induction k with
  | refl => exact h
  | fwd p _ hp ih => exact .fwd p ih hp
  | bwd p _ hp ih => exact .bwd p ih hp
theorem Conn.one {L : List PP} {p : PP} (hp : p ∈ L) : Conn L p.f0 p.f1 := .fwd p .refl hp
theorem Conn.two {L : List PP} {p : PP} (hp : p ∈ L) : Conn L p.f1 p.f0 := .bwd p .refl hp
theorem Conn.symm {L : List PP} {a b : Int} (h : Conn L a b) : Conn L b a := by
  induction h with
  | refl => exact .refl
  | fwd p _ hp ih => exact (Conn.two hp).trans ih
  | bwd p _ hp ih => exact (Conn.one hp).trans ih
theorem Conn.mono {L L' : List PP} (hs : ∀ p ∈ L, p ∈ L') {a b : Int} (h : Conn L a b) : Conn L' a b := by
  induction h with
  | refl => exact .refl
  | fwd p _ hp ih => exact .fwd p ih (hs p hp)
  | bwd p _ hp ih => exact .bwd p ih (hs p hp)
/-- The same, as a truth value. -/
noncomputable def linkB (L : List PP) (a b : Int) : Bool := @decide (Conn L a b) (Classical.propDecidable _)
theorem linkB_iff {L : List PP} {a b : Int} : linkB L a b = true ↔ Conn L a b := by
  unfold linkB
  exact @decide_eq_true_iff _ (Classical.propDecidable _)
theorem linkB_symm (L : List PP) (a b : Int) : linkB L a b = linkB L b a := by
  rw [Bool.eq_iff_iff, linkB_iff, linkB_iff]
  exact ⟨Conn.symm, Conn.symm⟩
/-- What is closed under the links, holds a, and holds nothing that is not linked to a, is a's family. -/
theorem closed_iff {L : List PP} {a : Int} {S : List Int} (ha : a ∈ S) (hc : ∀ p ∈ L, S.contains p.f0 = S.contains p.f1) (hs : ∀ x ∈ S, Conn L a x) (x : Int) : S.contains x = linkB L a x := by
  rw [Bool.eq_iff_iff, linkB_iff, List.contains_iff_mem]
  refine ⟨hs x, fun h => ?_⟩
  induction h with
  | refl => exact ha
  | fwd p _ hp ih =>
    have := hc p hp
    rw [List.contains_iff_mem.2 ih] at this
    exact List.contains_iff_mem.1 this.symm
  | bwd p _ hp ih =>
    have := hc p hp
    rw [List.contains_iff_mem.2 ih] at this
    exact List.contains_iff_mem.1 this
/-- How many links have not both their ends in S. -/
def openN (S : List Int) (L : List PP) : Nat := L.countP fun p => !(S.contains p.f0 && S.contains p.f1)
theorem openN_mono {S S' : List Int} (h : ∀ x ∈ S, x ∈ S') (L : List PP) : openN S' L ≤ openN S L := by
  unfold openN
  refine List.countP_mono_left fun p _ hp => ?_
  cases hq : (S.contains p.f0 && S.contains p.f1) with
  | false => rfl
  | true =>
    rw [Bool.and_eq_true, List.contains_iff_mem, List.contains_iff_mem] at hq
    rw [List.contains_iff_mem.2 (h _ hq.1), List.contains_iff_mem.2 (h _ hq.2)] at hp
    cases hp
theorem openN_lt {S S' : List Int} (h : ∀ x ∈ S, x ∈ S') {L : List PP} {p : PP} (hp : p ∈ L) (h0 : (S.contains p.f0 && S.contains p.f1) = false) (h1 : p.f0 ∈ S') (h2 : p.f1 ∈ S') : openN S' L < openN S L := by
  induction L with
  | nil => cases hp
  | cons q r ih =>
    unfold openN
    rw [List.countP_cons, List.countP_cons]
    have hm : openN S' r ≤ openN S r := openN_mono h r
    unfold openN at hm
    rcases List.mem_cons.1 hp with rfl | hp
    · rw [h0, List.contains_iff_mem.2 h1, List.contains_iff_mem.2 h2]
      simp
      simp at hm
      omega
    · have := ih hp
      unfold openN at this
      have hq : (if (!(S'.contains q.f0 && S'.contains q.f1)) = true then 1 else 0) ≤ (if (!(S.contains q.f0 && S.contains q.f1)) = true then 1 else 0) := by
        cases hq : (S.contains q.f0 && S.contains q.f1) with
        | false => simp only [Bool.not_false, if_true]; split <;> omega
        | true =>
          rw [Bool.and_eq_true, List.contains_iff_mem, List.contains_iff_mem] at hq
          rw [List.contains_iff_mem.2 (h _ hq.1), List.contains_iff_mem.2 (h _ hq.2)]
          simp
      omega
theorem openN_le (S : List Int) (L : List PP) : openN S L ≤ L.length := List.countP_le_length
/-- One round of the program's: what is known of it. -/
theorem pass_inv (L : List PP) (a : Int) : ∀ (R : List PP) (S : List Int) (m : Bool), (∀ p ∈ R, p ∈ L) → (∀ x ∈ S, Conn L a x) →
    (∀ x ∈ S, x ∈ (famPass R S m).1) ∧ (∀ x ∈ (famPass R S m).1, Conn L a x) ∧ (famPass R S m).1.length + 2 * openN (famPass R S m).1 L ≤ S.length + 2 * openN S L ∧ (m = true → (famPass R S m).2 = true) ∧
    ((famPass R S m).2 = false → (famPass R S m).1 = S ∧ ∀ p ∈ R, S.contains p.f0 = S.contains p.f1) ∧ ((famPass R S m).2 = true → m = true ∨ openN (famPass R S m).1 L < openN S L)
  | [], S, m, _, hS => by
    rw [famPass_nil]
    exact ⟨fun _ h => h, hS, Nat.le_refl _, fun h => h, fun _ => ⟨rfl, fun p hp => by cases hp⟩, fun h => .inl h⟩
  | p :: r, S, m, hR, hS => by
    rw [famPass_cons]
    have hpL : p ∈ L := hR p (by simp)
    have hrL : ∀ q ∈ r, q ∈ L := fun q hq => hR q (by simp [hq])
    by_cases h : (S.contains p.f0 != S.contains p.f1) = true
    · rw [if_pos h]
      have hne : S.contains p.f0 ≠ S.contains p.f1 := by simpa [bne] using h
      have h0 : (S.contains p.f0 && S.contains p.f1) = false := by
        cases ha : S.contains p.f0 <;> cases hb : S.contains p.f1 <;> simp_all
      have hs2 : ∀ x ∈ S, x ∈ p.f1 :: p.f0 :: S := fun x hx => by simp [hx]
      have hlt := openN_lt hs2 hpL h0 (by simp) (by simp)
      have hboth : Conn L a p.f0 ∧ Conn L a p.f1 := by
        cases ha : S.contains p.f0 with
        | true =>
          have := hS _ (List.contains_iff_mem.1 ha)
          exact ⟨this, .fwd p this hpL⟩
        | false =>
          cases hb : S.contains p.f1 with
          | true =>
            have := hS _ (List.contains_iff_mem.1 hb)
            exact ⟨.bwd p this hpL, this⟩
          | false => exact absurd (ha.trans hb.symm) hne
      obtain ⟨i1, i2, i3, i4, i5, i6⟩ := pass_inv L a r (p.f1 :: p.f0 :: S) true hrL (fun x hx => by
        rcases List.mem_cons.1 hx with rfl | hx
        · exact hboth.2
        · rcases List.mem_cons.1 hx with rfl | hx
          · exact hboth.1
          · exact hS x hx)
      refine ⟨fun x hx => i1 x (hs2 x hx), i2, ?_, fun _ => i4 rfl, fun hf => ?_, fun _ => .inr ?_⟩
      · simp only [List.length_cons] at i3
        omega
      · rw [i4 rfl] at hf
        cases hf
      · have := openN_mono i1 L
        omega
    · rw [if_neg h]
      have he : S.contains p.f0 = S.contains p.f1 := by
        have : (S.contains p.f0 != S.contains p.f1) = false := by rw [← Bool.not_eq_true]; exact h
        simpa [bne] using this
      obtain ⟨i1, i2, i3, i4, i5, i6⟩ := pass_inv L a r S m hrL hS
      refine ⟨i1, i2, i3, i4, fun hf => ⟨(i5 hf).1, fun q hq => ?_⟩, i6⟩
      rcases List.mem_cons.1 hq with rfl | hq
      · exact he
      · exact (i5 hf).2 q hq
theorem famLoop_ends (L : List PP) (a : Int) : ∀ (d : Nat) (S : List Int), openN S L ≤ d → a ∈ S → (∀ x ∈ S, Conn L a x) → S.length + 2 * openN S L ≤ 3000000 →
    ∃ S', famLoop (d + 1) L S = some S' ∧ ∀ x, S'.contains x = linkB L a x := by
  intro d
  induction d with
  | zero =>
    intro S hd ha hS hl
    obtain ⟨i1, i2, i3, i4, i5, i6⟩ := pass_inv L a L S false (fun _ h => h) hS
    rw [famLoop, if_neg (by omega)]
    cases hf : (famPass L S false).2 with
    | true => rcases i6 hf with h | h
              · cases h
              · omega
    | false =>
      rw [if_neg (by simp)]
      obtain ⟨h1, h2⟩ := i5 hf
      exact ⟨_, rfl, by rw [h1]; exact closed_iff ha h2 hS⟩
  | succ d ih =>
    intro S hd ha hS hl
    obtain ⟨i1, i2, i3, i4, i5, i6⟩ := pass_inv L a L S false (fun _ h => h) hS
    rw [famLoop, if_neg (by omega)]
    cases hf : (famPass L S false).2 with
    | true =>
      rw [if_pos rfl]
      rcases i6 hf with h | h
      · cases h
      · exact ih _ (by omega) (i1 a ha) i2 (by omega)
    | false =>
      rw [if_neg (by simp)]
      obtain ⟨h1, h2⟩ := i5 hf
      exact ⟨_, rfl, by rw [h1]; exact closed_iff ha h2 hS⟩
theorem famLoop_tells (L : List PP) (hL : L.length ≤ 1000000) (a : Int) : ∃ S, famLoop (L.length + 1) L [a] = some S ∧ ∀ x, S.contains x = linkB L a x :=
  famLoop_ends L a L.length [a] (openN_le _ _) (by simp) (fun x hx => by simp at hx; subst hx; exact .refl) (by have := openN_le [a] L; simp; omega)
/-! ### what the document's reader meets, round by round -/
def lkStep (met : List Int) (p : PP) : List Int :=
  if (met.contains p.f0 && !met.contains p.f1) = true then met ++ [p.f1] else if (met.contains p.f1 && !met.contains p.f0) = true then met ++ [p.f0] else met
def lkRound (L : List PP) (met : List Int) : List Int := L.foldl lkStep met
theorem lkStep_inv (L : List PP) (a : Int) (met : List Int) (p : PP) (hp : p ∈ L) (hS : ∀ x ∈ met, Conn L a x) :
    (∀ x ∈ met, x ∈ lkStep met p) ∧ (∀ x ∈ lkStep met p, Conn L a x) ∧ (lkStep met p).length + openN (lkStep met p) L ≤ met.length + openN met L ∧
    ((lkStep met p = met ∧ met.contains p.f0 = met.contains p.f1) ∨ openN (lkStep met p) L < openN met L) := by
  cases h0 : met.contains p.f0 <;> cases h1 : met.contains p.f1
  · have e : lkStep met p = met := by unfold lkStep; simp only [h0, h1]; rfl
    rw [e]
    exact ⟨fun _ h => h, hS, Nat.le_refl _, .inl ⟨rfl, rfl⟩⟩
  · have e : lkStep met p = met ++ [p.f0] := by unfold lkStep; simp only [h0, h1]; rfl
    rw [e]
    have hm := List.contains_iff_mem.1 h1
    have hs2 : ∀ x ∈ met, x ∈ met ++ [p.f0] := fun x hx => by simp [hx]
    have hlt := openN_lt hs2 hp (by rw [h0, h1]; rfl) (by simp) (by simp [hm])
    refine ⟨hs2, fun x hx => ?_, by simp; omega, .inr hlt⟩
    rcases List.mem_append.1 hx with hx | hx
    · exact hS x hx
    · rw [List.mem_singleton.1 hx]
      exact .bwd p (hS _ hm) hp
  · have e : lkStep met p = met ++ [p.f1] := by unfold lkStep; simp only [h0, h1]; rfl
    rw [e]
    have hm := List.contains_iff_mem.1 h0
    have hs2 : ∀ x ∈ met, x ∈ met ++ [p.f1] := fun x hx => by simp [hx]
    have hlt := openN_lt hs2 hp (by rw [h0, h1]; rfl) (by simp [hm]) (by simp)
    refine ⟨hs2, fun x hx => ?_, by simp; omega, .inr hlt⟩
    rcases List.mem_append.1 hx with hx | hx
    · exact hS x hx
    · rw [List.mem_singleton.1 hx]
      exact .fwd p (hS _ hm) hp
  · have e : lkStep met p = met := by unfold lkStep; simp only [h0, h1]; rfl
    rw [e]
    exact ⟨fun _ h => h, hS, Nat.le_refl _, .inl ⟨rfl, rfl⟩⟩
theorem lkRound_inv (L : List PP) (a : Int) : ∀ (R : List PP) (met : List Int), (∀ p ∈ R, p ∈ L) → (∀ x ∈ met, Conn L a x) →
    (∀ x ∈ met, x ∈ lkRound R met) ∧ (∀ x ∈ lkRound R met, Conn L a x) ∧ (lkRound R met).length + openN (lkRound R met) L ≤ met.length + openN met L ∧
    ((lkRound R met = met ∧ ∀ p ∈ R, met.contains p.f0 = met.contains p.f1) ∨ openN (lkRound R met) L < openN met L)
  | [], met, _, hS => ⟨fun _ h => h, hS, Nat.le_refl _, .inl ⟨rfl, fun p hp => by cases hp⟩⟩
  | p :: r, met, hR, hS => by
    obtain ⟨j1, j2, j3, j4⟩ := lkStep_inv L a met p (hR p (by simp)) hS
    obtain ⟨i1, i2, i3, i4⟩ := lkRound_inv L a r (lkStep met p) (fun q hq => hR q (by simp [hq])) j2
    refine ⟨fun x hx => i1 x (j1 x hx), i2, by have : lkRound (p :: r) met = lkRound r (lkStep met p) := rfl; rw [this]; omega, ?_⟩
    have e : lkRound (p :: r) met = lkRound r (lkStep met p) := rfl
    rw [e]
    have hm := openN_mono i1 L
    rcases j4 with ⟨e1, e2⟩ | hlt
    · rcases i4 with ⟨f1, f2⟩ | hlt
      · refine .inl ⟨by rw [f1, e1], fun q hq => ?_⟩
        rcases List.mem_cons.1 hq with rfl | hq
        · exact e2
        · rw [e1] at f2
          exact f2 q hq
      · exact .inr (by rw [e1] at hlt ⊢; exact hlt)
    · exact .inr (by omega)
def lkRounds (L : List PP) : Nat → List Int → List Int
  | 0, met => met
  | n + 1, met => lkRounds L n (lkRound L met)
theorem lkRounds_tells (L : List PP) (a : Int) : ∀ (n : Nat) (met : List Int), openN met L < n → a ∈ met → (∀ x ∈ met, Conn L a x) → ∀ x, (lkRounds L n met).contains x = linkB L a x := by
  intro n
  induction n with
  | zero => intro met h; omega
  | succ n ih =>
    intro met h ha hS x
    obtain ⟨i1, i2, i3, i4⟩ := lkRound_inv L a L met (fun _ h => h) hS
    rw [lkRounds]
    rcases i4 with ⟨e1, e2⟩ | hlt
    · have hfix : ∀ m, lkRounds L m met = met := by
        intro m
        induction m with
        | zero => rfl
        | succ m ihm => rw [lkRounds, e1, ihm]
      rw [e1, hfix]
      exact closed_iff ha e2 hS x
    · exact ih _ (by omega) (i1 a ha) i2 x
/-! ### pairs in order -/
theorem ltP_lt {x y : PP} : ltP x y = true ↔ x.f0 < y.f0 ∨ (x.f0 = y.f0 ∧ x.f1 < y.f1) := ltP_iff x y
abbrev leP (x y : PP) : Bool := !ltP y x
theorem leP_iff {x y : PP} : leP x y = true ↔ ¬ (y.f0 < x.f0 ∨ (y.f0 = x.f0 ∧ y.f1 < x.f1)) := by
  unfold leP
  rw [Bool.not_eq_true', ← Bool.not_eq_true, ltP_lt]
theorem leP_trans (a b c : PP) (h1 : leP a b = true) (h2 : leP b c = true) : leP a c = true := by
  rw [leP_iff] at *
  omega
theorem leP_total (a b : PP) : (leP a b || leP b a) = true := by
  rw [Bool.or_eq_true, leP_iff, leP_iff]
  omega
/-- Strictly rising. -/
abbrev Rises (l : List PP) : Prop := l.Pairwise fun x y => ltP x y = true
theorem dd_mem : ∀ (l : List PP) (x : PP), x ∈ dd l ↔ x ∈ l
  | [], x => Iff.rfl
  | [y], x => Iff.rfl
  | y :: z :: r, x => by
    rw [dd]
    by_cases h : eqP y z = true
    · rw [if_pos h, dd_mem (z :: r)]
      obtain rfl := eqP_eq h
      simp
    · rw [if_neg h, List.mem_cons, dd_mem (z :: r), List.mem_cons (l := z :: r)]
theorem dd_rises : ∀ (l : List PP), (l.Pairwise fun x y => leP x y = true) → Rises (dd l)
  | [], _ => List.Pairwise.nil
  | [y], _ => List.pairwise_singleton _ _
  | y :: z :: r, h => by
    rw [List.pairwise_cons] at h
    rw [dd]
    by_cases he : eqP y z = true
    · rw [if_pos he]
      exact dd_rises (z :: r) h.2
    · rw [if_neg he]
      refine List.pairwise_cons.2 ⟨fun x hx => ?_, dd_rises (z :: r) h.2⟩
      rw [dd_mem] at hx
      have hyz := h.1 z (by simp)
      have hlt : ltP y z = true := by
        rw [leP_iff] at hyz
        rw [ltP_lt]
        have hne : ¬ (y.f0 = z.f0 ∧ y.f1 = z.f1) := fun hh => he (by simp [eqP, hh.1, hh.2])
        omega
      rcases List.mem_cons.1 hx with rfl | hx
      · exact hlt
      · have hzx := (List.pairwise_cons.1 h.2).1 x hx
        rw [leP_iff] at hzx
        rw [ltP_lt] at hlt ⊢
        omega
theorem dd_id : ∀ (l : List PP), Rises l → dd l = l
  | [], _ => rfl
  | [y], _ => rfl
  | y :: z :: r, h => by
    rw [Rises, List.pairwise_cons] at h
    have hlt := h.1 z (by simp)
    have : eqP y z = false := by
      rw [← Bool.not_eq_true]
      intro he
      obtain rfl := eqP_eq he
      rw [ltP_lt] at hlt
      omega
    rw [dd, if_neg (by rw [this]; simp), dd_id (z :: r) h.2]
theorem lkL_rises (L : List PP) : Rises (lkL L) := dd_rises _ (List.pairwise_mergeSort leP_trans leP_total _)
theorem lkL_mem (L : List PP) (x : PP) : x ∈ lkL L ↔ ∃ p ∈ L, p.f0 ≠ p.f1 ∧ x = ⟨min p.f0 p.f1, max p.f0 p.f1⟩ := by
  unfold lkL
  rw [dd_mem, List.mem_mergeSort]
  unfold lkRaw
  simp only [List.mem_map, List.mem_filter]
  constructor
  · rintro ⟨p, ⟨h1, h2⟩, rfl⟩
    exact ⟨p, h1, by simpa using h2, rfl⟩
  · rintro ⟨p, h1, h2, rfl⟩
    exact ⟨p, ⟨h1, by simpa using h2⟩, rfl⟩
theorem lkL_lt (L : List PP) (x : PP) (h : x ∈ lkL L) : x.f0 < x.f1 := by
  obtain ⟨p, _, h2, rfl⟩ := (lkL_mem L x).1 h
  dsimp only
  omega
theorem lkL_id (L : List PP) (h1 : ∀ p ∈ L, p.f0 < p.f1) (h2 : Rises L) : lkL L = L := by
  have e : lkRaw L = L := by
    unfold lkRaw
    have e1 : (L.filter fun p => !(p.f0 == p.f1)) = L := by
      rw [List.filter_eq_self]
      intro p hp
      have := h1 p hp
      simp
      omega
    rw [e1]
    have e2 : ∀ p ∈ L, (⟨min p.f0 p.f1, max p.f0 p.f1⟩ : PP) = p := by
      intro p hp
      have := h1 p hp
      rw [show min p.f0 p.f1 = p.f0 by omega, show max p.f0 p.f1 = p.f1 by omega]
    rw [List.map_congr_left e2, List.map_id']
  unfold lkL
  rw [e, List.mergeSort_of_pairwise (le := leP) (h2.imp fun {x y} h => by rw [leP_iff]; rw [ltP_lt] at h; omega)]
  exact dd_id L h2
/-- Two rising rows of the same pairs are one. -/
theorem rises_ext : ∀ (a b : List PP), Rises a → Rises b → (∀ x, x ∈ a ↔ x ∈ b) → a = b
  | [], [], _, _, _ => rfl
  | [], y :: b, _, _, h => absurd ((h y).2 (by simp)) (by simp)
  | x :: a, [], _, _, h => absurd ((h x).1 (by simp)) (by simp)
  | x :: a, y :: b, ha, hb, h => by
    rw [Rises, List.pairwise_cons] at ha hb
    have hxy : x = y := by
      rcases List.mem_cons.1 ((h x).1 (by simp)) with e | hx
      · exact e
      · rcases List.mem_cons.1 ((h y).2 (by simp)) with e | hy
        · exact e.symm
        · have h1 := hb.1 x hx
          have h2 := ha.1 y hy
          rw [ltP_lt] at h1 h2
          omega
    subst hxy
    congr 1
    refine rises_ext a b ha.2 hb.2 fun z => ⟨fun hz => ?_, fun hz => ?_⟩
    · rcases List.mem_cons.1 ((h z).1 (by simp [hz])) with rfl | hz'
      · have := ha.1 z hz
        rw [ltP_lt] at this
        omega
      · exact hz'
    · rcases List.mem_cons.1 ((h z).2 (by simp [hz])) with rfl | hz'
      · have := hb.1 z hz
        rw [ltP_lt] at this
        omega
      · exact hz'
end Go.Proofs.Ythgjieigpfcekaa.Gr
