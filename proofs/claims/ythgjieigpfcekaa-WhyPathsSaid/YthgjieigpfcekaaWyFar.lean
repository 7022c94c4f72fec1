/- Paths of links: the plain law (rows that rise; walks; what the program's rounds tell). -/
import Derived.Test.YthgjieigpfcekaaWyMath
import Derived.Test.YthgjieigpfcekaaQWx3
namespace Go.Proofs.Ythgjieigpfcekaa.Gr
open Go.RowKit Go.Proofs.Ythgjieigpfcekaa.QW Go.Proofs.YthgjieigpfcekaaW.PrintWords Go.Proofs.YthgjieigpfcekaaW.PrintLast
set_option linter.unusedVariables false
def endsL (L : List PP) : List Int := L.flatMap fun p => [p.f0, p.f1]
theorem ends0 {L : List PP} {p : PP} (h : p ∈ L) : p.f0 ∈ endsL L := List.mem_flatMap.2 ⟨p, h, by simp⟩
theorem ends1 {L : List PP} {p : PP} (h : p ∈ L) : p.f1 ∈ endsL L := List.mem_flatMap.2 ⟨p, h, by simp⟩
theorem ends_len (L : List PP) : (endsL L).length = 2 * L.length := by
  induction L with
  | nil => rfl
  | cons p r ih =>
    show ([p.f0, p.f1] ++ endsL r).length = _
    rw [List.length_append, ih]
    simp
    omega
theorem countP_lt {α : Type} (p q : α → Bool) : ∀ (l : List α), (∀ x ∈ l, q x = true → p x = true) → (∃ x ∈ l, p x = true ∧ q x = false) → l.countP q < l.countP p
  | [], _, ⟨x, hx, _⟩ => by cases hx
  | y :: r, h, ⟨x, hx, h1, h2⟩ => by
    have hle : r.countP q ≤ r.countP p := List.countP_mono_left fun z hz => h z (List.mem_cons_of_mem _ hz)
    rw [List.countP_cons, List.countP_cons]
    rcases List.mem_cons.1 hx with rfl | hx
    · rw [h1, h2, if_pos rfl, if_neg Bool.false_ne_true]
      omega
    · have := countP_lt p q r (fun z hz => h z (List.mem_cons_of_mem _ hz)) ⟨x, hx, h1, h2⟩
      have hy := h y (List.mem_cons_self ..)
      cases hq : q y with
      | false => rw [if_neg Bool.false_ne_true]; split <;> omega
      | true => rw [hy hq]; omega
abbrev RiseI (l : List Int) : Prop := l.Pairwise fun x y => x < y
theorem riseI_ext : ∀ (a b : List Int), RiseI a → RiseI b → (∀ x, x ∈ a ↔ x ∈ b) → a = b
  | [], [], _, _, _ => rfl
  | [], y :: r, _, _, h => by have := (h y).2 (List.mem_cons_self ..); cases this
  | x :: r, [], _, _, h => by have := (h x).1 (List.mem_cons_self ..); cases this
  | x :: r, y :: s, ha, hb, h => by
    unfold RiseI at ha hb
    rw [List.pairwise_cons] at ha hb
    have hxy : x = y := by
      have h1 := (h x).1 (List.mem_cons_self ..)
      have h2 := (h y).2 (List.mem_cons_self ..)
      rcases List.mem_cons.1 h1 with e | h1
      · exact e
      rcases List.mem_cons.1 h2 with e | h2
      · exact e.symm
      have := ha.1 y h2
      have := hb.1 x h1
      omega
    subst hxy
    rw [riseI_ext r s ha.2 hb.2 fun z => ?_]
    constructor
    · intro hz
      have hlt := ha.1 z hz
      rcases List.mem_cons.1 ((h z).1 (List.mem_cons_of_mem _ hz)) with e | e
      · omega
      · exact e
    · intro hz
      have hlt := hb.1 z hz
      rcases List.mem_cons.1 ((h z).2 (List.mem_cons_of_mem _ hz)) with e | e
      · omega
      · exact e
theorem compactUp_spec (d : Array Int) (hs : ∀ i j, i < j → j < d.size → d[i]! ≤ d[j]!) : ∀ m, m ≤ d.size → RiseI (Lib.compactUpTo d m) ∧ (∀ x, x ∈ Lib.compactUpTo d m ↔ ∃ j, j < m ∧ d[j]! = x)
  | 0, _ => by
    refine ⟨List.Pairwise.nil, fun x => ⟨fun h => (by cases h), fun ⟨j, hj, _⟩ => (by omega)⟩⟩
  | m + 1, hm => by
    obtain ⟨h1, h2⟩ := compactUp_spec d hs m (by omega)
    rw [Lib.compactUpTo_succ]
    cases hk : Lib.keeps d m with
    | true =>
      rw [if_pos rfl]
      refine ⟨List.pairwise_append.2 ⟨h1, List.pairwise_singleton _ _, fun a ha b hb => ?_⟩, fun x => ?_⟩
      · rw [List.mem_singleton.1 hb]
        obtain ⟨j, hj, rfl⟩ := (h2 a).1 ha
        have hle := hs j m hj (by omega)
        by_cases e : d[j]! = d[m]!
        · exfalso
          unfold Lib.keeps at hk
          have h3 : d[m - 1]! = d[m]! := by
            have := hs (m - 1) m (by omega) (by omega)
            rcases Nat.lt_or_ge j (m - 1) with h | h
            · have := hs j (m - 1) h (by omega)
              omega
            · have : j = m - 1 := by omega
              rw [← this, e]
          simp at hk
          rcases hk with hk | hk
          · omega
          · exact hk h3.symm
        · omega
      · rw [List.mem_append, h2 x, List.mem_singleton]
        constructor
        · rintro (⟨j, hj, rfl⟩ | rfl)
          · exact ⟨j, by omega, rfl⟩
          · exact ⟨m, by omega, rfl⟩
        · rintro ⟨j, hj, rfl⟩
          rcases Nat.lt_or_ge j m with h | h
          · exact .inl ⟨j, h, rfl⟩
          · exact .inr (by rw [show j = m by omega])
    | false =>
      rw [if_neg (by simp), List.append_nil]
      refine ⟨h1, fun x => ?_⟩
      rw [h2 x]
      constructor
      · rintro ⟨j, hj, rfl⟩
        exact ⟨j, by omega, rfl⟩
      · rintro ⟨j, hj, rfl⟩
        rcases Nat.lt_or_ge j m with h | h
        · exact ⟨j, h, rfl⟩
        · obtain rfl : j = m := by omega
          unfold Lib.keeps at hk
          simp at hk
          exact ⟨j - 1, by omega, hk.2.symm⟩
theorem compact_sorted (xs : List Int) (h : xs.Pairwise fun x y => x ≤ y) : RiseI (Lib.compact xs) ∧ ∀ x, x ∈ Lib.compact xs ↔ x ∈ xs := by
  have hs : ∀ i j, i < j → j < xs.toArray.size → xs.toArray[i]! ≤ xs.toArray[j]! := by
    intro i j hij hj
    rw [List.size_toArray] at hj
    rw [getElem!_pos _ _ (by rw [List.size_toArray]; omega), getElem!_pos _ _ (by rw [List.size_toArray]; omega)]
    exact List.pairwise_iff_getElem.1 h i j (by omega) hj hij
  obtain ⟨h1, h2⟩ := compactUp_spec xs.toArray hs xs.length (by rw [List.size_toArray]; exact Nat.le_refl _)
  refine ⟨h1, fun x => (h2 x).trans ?_⟩
  constructor
  · rintro ⟨j, hj, rfl⟩
    rw [getElem!_pos _ _ (by rw [List.size_toArray]; omega)]
    simp
  · intro hx
    obtain ⟨j, hj, rfl⟩ := List.getElem_of_mem hx
    exact ⟨j, hj, by rw [getElem!_pos _ _ (by rw [List.size_toArray]; omega)]; simp⟩
theorem sortc_spec (xs : List Int) : RiseI (Lib.compact (xs.mergeSort fun x y => decide (x ≤ y))) ∧ ∀ x, x ∈ Lib.compact (xs.mergeSort fun x y => decide (x ≤ y)) ↔ x ∈ xs := by
  have hp := List.pairwise_mergeSort (le := fun (x y : Int) => decide (x ≤ y)) (fun a b c h1 h2 => by simp only [decide_eq_true_eq] at *; omega) (fun a b => by simp only [Bool.or_eq_true, decide_eq_true_eq]; omega) xs
  obtain ⟨h1, h2⟩ := compact_sorted _ (hp.imp fun h => by simpa using h)
  exact ⟨h1, fun x => (h2 x).trans List.mem_mergeSort⟩
/-- One link leads from a to b. -/
def nearB (L : List PP) (a b : Int) : Prop := b ≠ a ∧ ∃ p ∈ L, (p.f0 = a ∧ p.f1 = b) ∨ (p.f1 = a ∧ p.f0 = b)
theorem nearB_symm {L : List PP} {a b : Int} (h : nearB L a b) : nearB L b a := by
  obtain ⟨h1, p, hp, h2⟩ := h
  exact ⟨fun e => h1 e.symm, p, hp, by rcases h2 with ⟨e1, e2⟩ | ⟨e1, e2⟩; exact .inr ⟨e2, e1⟩; exact .inl ⟨e2, e1⟩⟩
theorem nearL_rise (L : List PP) (a : Int) : RiseI (nearL L a) := (sortc_spec _).1
theorem nearL_mem (L : List PP) (a y : Int) : y ∈ nearL L a ↔ nearB L a y := by
  refine ((sortc_spec _).2 y).trans ?_
  unfold nearRaw nearAdd nearB
  rw [List.mem_flatMap]
  constructor
  · rintro ⟨p, hp, hy⟩
    rcases List.mem_append.1 hy with hy | hy
    · split at hy
      · rename_i h
        rw [List.mem_singleton.1 hy]
        exact ⟨h.2, p, hp, .inl ⟨h.1, rfl⟩⟩
      · cases hy
    · split at hy
      · rename_i h
        rw [List.mem_singleton.1 hy]
        exact ⟨h.2, p, hp, .inr ⟨h.1, rfl⟩⟩
      · cases hy
  · rintro ⟨hne, p, hp, ⟨h1, h2⟩ | ⟨h1, h2⟩⟩
    · exact ⟨p, hp, List.mem_append.2 (.inl (by rw [if_pos ⟨h1, by rw [h2]; exact hne⟩, h2]; simp))⟩
    · exact ⟨p, hp, List.mem_append.2 (.inr (by rw [if_pos ⟨h1, by rw [h2]; exact hne⟩, h2]; simp))⟩
theorem nearB_ends {L : List PP} {a b : Int} (h : nearB L a b) : b ∈ endsL L := by
  obtain ⟨_, p, hp, ⟨_, h⟩ | ⟨_, h⟩⟩ := h
  · rw [← h]; exact ends1 hp
  · rw [← h]; exact ends0 hp
/-- So many links lead from a to b. -/
def walk (L : List PP) : Nat → Int → Int → Prop
  | 0, a, b => a = b
  | n + 1, a, b => ∃ c, walk L n a c ∧ nearB L c b
theorem walk_cons {L : List PP} : ∀ {n : Nat} {a c b : Int}, nearB L a c → walk L n c b → walk L (n + 1) a b
  | 0, a, c, b, h, k => ⟨a, rfl, by rw [← (show c = b from k)]; exact h⟩
  | n + 1, a, c, b, h, ⟨d, k1, k2⟩ => ⟨d, walk_cons h k1, k2⟩
theorem walk_symm {L : List PP} : ∀ {n : Nat} {a b : Int}, walk L n a b → walk L n b a
  | 0, _, _, h => h.symm
  | n + 1, _, _, ⟨_, h1, h2⟩ => walk_cons (nearB_symm h2) (walk_symm h1)
theorem walk_uncons {L : List PP} : ∀ {n : Nat} {a b : Int}, walk L (n + 1) a b → ∃ c, nearB L a c ∧ walk L n c b
  | 0, a, b, ⟨c, h1, h2⟩ => ⟨b, by rw [show a = c from h1]; exact h2, rfl⟩
  | n + 1, a, b, ⟨c, h1, h2⟩ => by
    obtain ⟨d, h3, h4⟩ := walk_uncons h1
    exact ⟨d, h3, c, h4, h2⟩
/-- The least such number. -/
def isD (L : List PP) (a b : Int) (n : Nat) : Prop := walk L n a b ∧ ∀ m, m < n → ¬ walk L m a b
theorem isD_one {L : List PP} {a b : Int} {n m : Nat} (h : isD L a b n) (k : isD L a b m) : n = m := by
  rcases Nat.lt_trichotomy n m with e | e | e
  · exact absurd h.1 (k.2 n e)
  · exact e
  · exact absurd k.1 (h.2 m e)
theorem isD_symm {L : List PP} {a b : Int} {n : Nat} (h : isD L a b n) : isD L b a n := ⟨walk_symm h.1, fun m hm hw => h.2 m hm (walk_symm hw)⟩
theorem walk_isD {L : List PP} {a b : Int} {n : Nat} (h : walk L n a b) : ∃ m, m ≤ n ∧ isD L a b m := by
  induction n using Nat.strongRecOn with
  | _ n ih =>
    by_cases hx : ∃ m, m < n ∧ walk L m a b
    · obtain ⟨m, hm, hw⟩ := hx
      obtain ⟨k, hk, hd⟩ := ih m hm hw
      exact ⟨k, by omega, hd⟩
    · exact ⟨n, Nat.le_refl _, h, fun m hm hw => hx ⟨m, hm, hw⟩⟩
/-- The state of the program's rounds. -/
structure Bfs (L : List PP) (s : Int) (F : Int → Option Int) (O : List Int) : Prop where
  d : ∀ y v, F y = some v → ∃ n : Nat, v = n ∧ isD L s y n
  s0 : F s = some 0
  i : ∀ y ∈ O, (F y).isSome = true
  up : O.Pairwise fun x y => (F x).getD 0 ≤ (F y).getD 0
  one : ∀ x r, O = x :: r → ∀ y ∈ O, (F y).getD 0 ≤ (F x).getD 0 + 1
  out : ∀ y, (F y).isSome = true → y ∈ O ∨ ∀ z, nearB L y z → (F z).isSome = true
  all : ∀ x r, O = x :: r → ∀ z m, isD L s z m → (m : Int) ≤ (F x).getD 0 → (F z).isSome = true
/-- One round: what is known while the neighbours of x are gone through. -/
structure BfsIn (L : List PP) (s x : Int) (n : Nat) (F : Int → Option Int) (rest : List Int) (done : List Int) (F1 : Int → Option Int) (O1 : List Int) : Prop where
  ext : ∀ y v, F y = some v → F1 y = some v
  new : ∀ y, F y = none → (F1 y).isSome = true → F1 y = some ((n : Int) + 1) ∧ isD L s y (n + 1) ∧ y ∈ O1
  o : ∃ t, O1 = rest ++ t ∧ ∀ y ∈ t, F1 y = some ((n : Int) + 1)
  met : ∀ y ∈ done, (F1 y).isSome = true
theorem bfs_pass (L : List PP) (s x : Int) (n : Nat) (F : Int → Option Int) (rest : List Int) (hx : F x = some (n : Int)) (hall : ∀ z m, isD L s z m → m ≤ n → (F z).isSome = true) (hw : walk L n s x) :
    ∀ (ys done : List Int) (F1 : Int → Option Int) (O1 : List Int), (∀ y ∈ ys, nearB L x y) → BfsIn L s x n F rest done F1 O1 → BfsIn L s x n F rest (done ++ ys) (farPass x ys (F1, O1)).1 (farPass x ys (F1, O1)).2
  | [], done, F1, O1, _, h => by rw [List.append_nil]; exact h
  | y :: r, done, F1, O1, hy, h => by
    have hyx := hy y (List.mem_cons_self ..)
    have hx1 := h.ext x _ hx
    have hstep : ∃ F2 O2, farStep x (F1, O1) y = (F2, O2) ∧ BfsIn L s x n F rest (done ++ [y]) F2 O2 := by
      unfold farStep
      by_cases hs : (F1 y).isSome = true
      · refine ⟨F1, O1, by rw [if_pos hs], h.ext, h.new, h.o, fun z hz => ?_⟩
        rcases List.mem_append.1 hz with e | e
        · exact h.met z e
        · rw [List.mem_singleton.1 e]; exact hs
      · have hFy : F y = none := by
          cases e : F y with
          | none => rfl
          | some v => rw [h.ext y v e] at hs; exact absurd rfl hs
        have hD : isD L s y (n + 1) := by
          refine ⟨⟨x, hw, hyx⟩, fun m hm hwm => ?_⟩
          obtain ⟨m', hm', hd⟩ := walk_isD hwm
          have := hall y m' hd (by omega)
          rw [hFy] at this
          cases this
        refine ⟨mput F1 y ((n : Int) + 1), O1 ++ [y], by rw [if_neg hs]; dsimp only; rw [hx1]; rfl, fun z v hz => ?_, fun z hz hz1 => ?_, ?_, fun z hz => ?_⟩
        · unfold mput
          rw [if_neg (by rintro rfl; rw [hFy] at hz; cases hz)]
          exact h.ext z v hz
        · unfold mput at hz1 ⊢
          by_cases e : z = y
          · subst e
            rw [if_pos rfl]
            exact ⟨rfl, hD, by simp⟩
          · rw [if_neg e] at hz1 ⊢
            obtain ⟨a1, a2, a3⟩ := h.new z hz hz1
            exact ⟨a1, a2, by simp [a3]⟩
        · obtain ⟨t, ht, hv⟩ := h.o
          refine ⟨t ++ [y], by rw [ht, List.append_assoc], fun z hz => ?_⟩
          unfold mput
          by_cases e : z = y
          · rw [if_pos e]
          · rw [if_neg e]
            rcases List.mem_append.1 hz with hz | hz
            · exact hv z hz
            · exact absurd (List.mem_singleton.1 hz) e
        · unfold mput
          by_cases e : z = y
          · rw [if_pos e]; rfl
          · rw [if_neg e]
            rcases List.mem_append.1 hz with hz | hz
            · exact h.met z hz
            · exact absurd (List.mem_singleton.1 hz) e
    obtain ⟨F2, O2, e, h2⟩ := hstep
    rw [farPass, e]
    have := bfs_pass L s x n F rest hx hall hw r (done ++ [y]) F2 O2 (fun z hz => hy z (List.mem_cons_of_mem _ hz)) h2
    rw [List.append_assoc] at this
    exact this
theorem some_of {F : Int → Option Int} {y : Int} (h : (F y).isSome = true) : ∃ v, F y = some v := by
  cases e : F y with
  | none => rw [e] at h; cases h
  | some v => exact ⟨v, rfl⟩
theorem bfs_round {L : List PP} {s x : Int} {F : Int → Option Int} {r : List Int} (h : Bfs L s F (x :: r)) : Bfs L s (farPass x (nearL L x) (F, r)).1 (farPass x (nearL L x) (F, r)).2 := by
  obtain ⟨v, hv⟩ := some_of (h.i x (List.mem_cons_self ..))
  obtain ⟨n, rfl, hd⟩ := h.d x v hv
  have hall : ∀ z m, isD L s z m → m ≤ n → (F z).isSome = true := fun z m hz hm => h.all x r rfl z m hz (by rw [hv]; show (m : Int) ≤ n; omega)
  have h0 : BfsIn L s x n F r [] F r := ⟨fun _ _ h => h, fun y h1 h2 => (by rw [h1] at h2; cases h2), ⟨[], (by simp), fun y hy => (by cases hy)⟩, fun y hy => (by cases hy)⟩
  have hp := bfs_pass L s x n F r hv hall hd.1 (nearL L x) [] F r (fun y hy => (nearL_mem L x y).1 hy) h0
  rw [List.nil_append] at hp
  generalize (farPass x (nearL L x) (F, r)).1 = F1 at hp
  generalize (farPass x (nearL L x) (F, r)).2 = O1 at hp
  obtain ⟨ext, new, ⟨t, ht, hvt⟩, met⟩ := hp
  have ext2 : ∀ y, (F y).isSome = true → F1 y = F y := fun y hy => by
    obtain ⟨v, e⟩ := some_of hy
    rw [e, ext y v e]
  have hir : ∀ y ∈ r, (F y).isSome = true := fun y hy => h.i y (List.mem_cons_of_mem _ hy)
  have hup := List.pairwise_cons.1 h.up
  have hlow : ∀ y ∈ O1, (n : Int) ≤ (F1 y).getD 0 := by
    intro y hy
    rw [ht] at hy
    rcases List.mem_append.1 hy with hy | hy
    · rw [ext2 y (hir y hy)]
      have := hup.1 y hy
      rw [hv] at this
      exact this
    · rw [hvt y hy]
      show (n : Int) ≤ n + 1
      omega
  have hhigh : ∀ y ∈ O1, (F1 y).getD 0 ≤ (n : Int) + 1 := by
    intro y hy
    rw [ht] at hy
    rcases List.mem_append.1 hy with hy | hy
    · rw [ext2 y (hir y hy)]
      have := h.one x r rfl y (List.mem_cons_of_mem _ hy)
      rw [hv] at this
      exact this
    · rw [hvt y hy]
      exact Int.le_refl _
  refine ⟨fun y v hy => ?_, ext s _ h.s0, fun y hy => ?_, ?_, fun x' r' he y hy => ?_, fun y hy => ?_, fun x' r' he z m hz hm => ?_⟩
  · cases e : F y with
    | some v' =>
      have := ext y v' e
      rw [hy] at this
      obtain rfl := Option.some.inj this
      exact h.d y v e
    | none =>
      obtain ⟨a1, a2, _⟩ := new y e (by rw [hy]; rfl)
      rw [hy] at a1
      exact ⟨n + 1, by rw [Option.some.inj a1]; rfl, a2⟩
  · rw [ht] at hy
    rcases List.mem_append.1 hy with hy | hy
    · rw [ext2 y (hir y hy)]
      exact hir y hy
    · rw [hvt y hy]
      rfl
  · rw [ht, List.pairwise_append]
    refine ⟨?_, ?_, fun a ha b hb => ?_⟩
    · refine List.Pairwise.imp_of_mem (fun {a b} ha hb hab => ?_) hup.2
      rw [ext2 a (hir a ha), ext2 b (hir b hb)]
      exact hab
    · refine List.pairwise_iff_forall_sublist.2 fun {a b} hab => ?_
      have ha := hab.subset (List.mem_cons_self ..)
      have hb := hab.subset (List.mem_cons_of_mem _ (List.mem_cons_self ..))
      rw [hvt a ha, hvt b hb]
      exact Int.le_refl _
    · have h1 := hhigh a (by rw [ht]; exact List.mem_append.2 (.inl ha))
      rw [hvt b hb]
      exact h1
  · have h1 := hhigh y hy
    have h2 := hlow x' (by rw [he]; exact List.mem_cons_self ..)
    omega
  · cases e : F y with
    | none => exact .inl (new y e hy).2.2
    | some v =>
      rcases h.out y (by rw [e]; rfl) with ho | ho
      · rcases List.mem_cons.1 ho with rfl | ho
        · exact .inr fun z hz => met z ((nearL_mem L y z).2 hz)
        · exact .inl (by rw [ht]; exact List.mem_append.2 (.inl ho))
      · exact .inr fun z hz => by rw [ext2 z (ho z hz)]; exact ho z hz
  · have hx' : x' ∈ O1 := by rw [he]; exact List.mem_cons_self ..
    have h1 := hlow x' hx'
    have h2 := hhigh x' hx'
    by_cases hmn : m ≤ n
    · rw [ext2 z (hall z m hz hmn)]
      exact hall z m hz hmn
    · obtain rfl : m = n + 1 := by omega
      obtain ⟨u, hu, huz⟩ := hz.1
      obtain ⟨k, hk, hdu⟩ := walk_isD hu
      obtain rfl : k = n := by
        rcases Nat.lt_or_ge k n with hlt | hge
        · exact absurd ⟨u, hdu.1, huz⟩ (hz.2 (k + 1) (by omega))
        · omega
      have hFu := hall u k hdu (Nat.le_refl _)
      obtain ⟨w, hw⟩ := some_of hFu
      obtain ⟨k', rfl, hk'⟩ := h.d u w hw
      obtain rfl := isD_one hk' hdu
      have hsome1 : (F1 u).isSome = true := by rw [ext2 u hFu]; exact hFu
      have hval : (F1 u).getD 0 = (k' : Int) := by rw [ext2 u hFu, hw]; rfl
      rcases h.out u hFu with ho | ho
      · rcases List.mem_cons.1 ho with rfl | ho
        · exact met z ((nearL_mem L u z).2 huz)
        · exfalso
          have hr := hup.1 u ho
          have hrne : r ≠ [] := fun e => by rw [e] at ho; cases ho
          obtain ⟨y0, r0, rfl⟩ : ∃ y0 r0, r = y0 :: r0 := by
            cases r with
            | nil => exact absurd rfl hrne
            | cons a b => exact ⟨a, b, rfl⟩
          rw [ht, List.cons_append] at he
          obtain ⟨rfl, _⟩ := List.cons.inj he
          have hle : (F y0).getD 0 ≤ (F u).getD 0 := by
            rcases List.mem_cons.1 ho with rfl | ho
            · exact Int.le_refl _
            · exact (List.pairwise_cons.1 hup.2).1 u ho
          rw [ext2 y0 (hir y0 (List.mem_cons_self ..))] at hm
          rw [hw] at hle
          have : (F y0).getD 0 ≤ (k' : Int) := hle
          omega
      · have := ho z huz
        rw [ext2 z this]
        exact this
/-- How many ends are not yet met. -/
def outF (L : List PP) (F : Int → Option Int) : Nat := (endsL L).countP fun y => (F y).isNone
theorem far_pot (L : List PP) (x : Int) : ∀ (ys : List Int) (F : Int → Option Int) (O : List Int), (∀ y ∈ ys, y ∈ endsL L) → (farPass x ys (F, O)).2.length + outF L (farPass x ys (F, O)).1 ≤ O.length + outF L F
  | [], F, O, _ => Nat.le_refl _
  | y :: r, F, O, hy => by
    rw [farPass]
    unfold farStep
    by_cases hs : (F y).isSome = true
    · rw [if_pos hs]
      exact far_pot L x r F O fun z hz => hy z (List.mem_cons_of_mem _ hz)
    · rw [if_neg hs]
      refine Nat.le_trans (far_pot L x r _ _ fun z hz => hy z (List.mem_cons_of_mem _ hz)) ?_
      have : outF L (mput F y ((F x).getD 0 + 1)) < outF L F := by
        unfold outF
        refine countP_lt _ _ _ (fun z _ hz => ?_) ⟨y, hy y (List.mem_cons_self ..), by cases e : F y with | none => rfl | some v => rw [e] at hs; exact absurd rfl hs, by unfold mput; rw [if_pos rfl]; rfl⟩
        unfold mput at hz
        split at hz
        · cases hz
        · exact hz
      dsimp only
      rw [List.length_append, List.length_singleton]
      omega
/-- All that can be reached has its distance; nothing else has one. -/
def FarIs (L : List PP) (s : Int) (F : Int → Option Int) : Prop := ∀ y, (∀ v, F y = some v → ∃ n : Nat, v = n ∧ isD L s y n) ∧ ∀ n, isD L s y n → F y = some (n : Int)
theorem bfs_end {L : List PP} {s : Int} {F : Int → Option Int} (h : Bfs L s F []) : FarIs L s F := by
  have hw : ∀ n y, walk L n s y → (F y).isSome = true := by
    intro n
    induction n with
    | zero =>
      intro y hy
      rw [← (show s = y from hy), h.s0]
      rfl
    | succ n ih =>
      rintro y ⟨c, h1, h2⟩
      rcases h.out c (ih c h1) with ho | ho
      · cases ho
      · exact ho y h2
  intro y
  refine ⟨h.d y, fun n hn => ?_⟩
  obtain ⟨v, hv⟩ := some_of (hw n y hn.1)
  obtain ⟨m, rfl, hm⟩ := h.d y v hv
  rw [hv, isD_one hm hn]
theorem farLoop_nil (k : Nat) (L : List PP) (F : Int → Option Int) (c : Nat) (h : c ≤ 1000000000) : farLoop (k + 1) L F [] c = some F := by
  rw [farLoop, if_neg (by simp only [List.length_nil]; omega)]
theorem farLoop_cons (k : Nat) (L : List PP) (F : Int → Option Int) (x : Int) (r : List Int) (c : Nat) (h : c ≤ 1000000000) (h2 : r.length < 1000000000) : farLoop (k + 1) L F (x :: r) c = farLoop k L (farPass x (nearL L x) (F, r)).1 (farPass x (nearL L x) (F, r)).2 (c + (nearL L x).length + 1) := by
  rw [farLoop, if_neg (by simp only [List.length_cons]; omega)]
theorem farLoop_tells (L : List PP) (s : Int) (hL : L.length ≤ 1000) : ∀ (d : Nat) (F : Int → Option Int) (O : List Int) (c : Nat), O.length + outF L F ≤ d → d ≤ 2001 → c + d * 2001 ≤ 100000000 → Bfs L s F O → ∃ F', farLoop (d + 1) L F O c = some F' ∧ FarIs L s F'
  | 0, F, O, c, h1, h2, h3, hb => by
    obtain rfl : O = [] := List.length_eq_zero_iff.1 (by omega)
    exact ⟨F, farLoop_nil 0 L F c (by omega), bfs_end hb⟩
  | d + 1, F, O, c, h1, h2, h3, hb => by
    cases O with
    | nil => exact ⟨F, farLoop_nil (d + 1) L F c (by omega), bfs_end hb⟩
    | cons x r =>
      have hpot := far_pot L x (nearL L x) F r fun y hy => nearB_ends ((nearL_mem L x y).1 hy)
      have hnl := near_len L x
      simp only [List.length_cons] at h1
      rw [farLoop_cons _ _ _ _ _ _ (by omega) (by omega)]
      exact farLoop_tells L s hL d _ _ _ (by omega) (by omega) (by omega) (bfs_round hb)
theorem far_start (L : List PP) (s : Int) : Bfs L s (mput (fun _ => none) s 0) [s] := by
  have h1 : ∀ y, mput (fun _ => none) s 0 y = if y = s then some 0 else none := fun y => rfl
  refine ⟨fun y v h => ?_, by rw [h1, if_pos rfl], fun y hy => ?_, List.pairwise_singleton _ _, fun x r he y hy => ?_, fun y hy => ?_, fun x r he z m hz hm => ?_⟩
  · rw [h1] at h
    split at h
    · rename_i e
      obtain rfl := Option.some.inj h
      exact ⟨0, rfl, e.symm, fun m hm => by omega⟩
    · cases h
  · rw [List.mem_singleton.1 hy, h1, if_pos rfl]
    rfl
  · obtain ⟨rfl, rfl⟩ := List.cons.inj he
    rw [List.mem_singleton.1 hy]
    omega
  · rw [h1] at hy
    split at hy
    · rename_i e
      exact .inl (by rw [e]; simp)
    · cases hy
  · obtain ⟨rfl, rfl⟩ := List.cons.inj he
    rw [h1, if_pos rfl] at hm
    have hm0 : m = 0 := by have : (m : Int) ≤ 0 := hm; omega
    subst hm0
    rw [← (show s = z from hz.1), h1, if_pos rfl]
    rfl
theorem far_tells (L : List PP) (s : Int) (hL : L.length ≤ 1000) : ∃ F, farLoop 2002 L (mput (fun _ => none) s 0) [s] 1 = some F ∧ FarIs L s F := by
  have h1 : outF L (mput (fun _ => none) s 0) ≤ 2 * L.length := by
    rw [← ends_len]
    exact List.countP_le_length
  exact farLoop_tells L s hL 2001 _ [s] 1 (by simp only [List.length_singleton]; omega) (by omega) (by omega) (far_start L s)
theorem isD_pred {L : List PP} {a b : Int} {n : Nat} (h : isD L a b (n + 1)) : ∃ c, isD L a c n ∧ nearB L c b := by
  obtain ⟨c, h1, h2⟩ := h.1
  exact ⟨c, ⟨h1, fun m hm hw => h.2 (m + 1) (by omega) ⟨c, hw, h2⟩⟩, h2⟩
/-- What lies within so many links. -/
noncomputable def inW (L : List PP) (a : Int) (n : Nat) (x : Int) : Bool := @decide (∃ m, m ≤ n ∧ walk L m a x) (Classical.propDecidable _)
theorem inW_iff {L : List PP} {a : Int} {n : Nat} {x : Int} : inW L a n x = true ↔ ∃ m, m ≤ n ∧ walk L m a x := by
  unfold inW
  exact @decide_eq_true_iff _ (Classical.propDecidable _)
noncomputable def openW (L : List PP) (a : Int) (n : Nat) : Nat := L.countP fun p => !(inW L a n p.f0 && inW L a n p.f1)
theorem inW_mono {L : List PP} {a : Int} {n : Nat} {x : Int} (h : inW L a n x = true) : inW L a (n + 1) x = true := by
  rw [inW_iff] at *
  obtain ⟨m, h1, h2⟩ := h
  exact ⟨m, by omega, h2⟩
theorem openW_lt {L : List PP} {a b : Int} {n : Nat} (h : isD L a b (n + 1)) : openW L a (n + 1) < openW L a n := by
  obtain ⟨c, hc, hne, p, hp, he⟩ := isD_pred h
  have hb0 : inW L a n b = false := by
    rw [← Bool.not_eq_true, inW_iff]
    rintro ⟨m, h1, h2⟩
    exact h.2 m (by omega) h2
  have hb1 : inW L a (n + 1) b = true := inW_iff.2 ⟨n + 1, Nat.le_refl _, h.1⟩
  have hc1 : inW L a (n + 1) c = true := inW_iff.2 ⟨n, by omega, hc.1⟩
  refine countP_lt _ _ _ (fun q _ hq => ?_) ⟨p, hp, ?_⟩
  · rw [Bool.not_eq_true', Bool.and_eq_false_iff] at hq ⊢
    rcases hq with h | h
    · left
      cases e : inW L a n q.f0 with
      | false => rfl
      | true => rw [inW_mono e] at h; cases h
    · right
      cases e : inW L a n q.f1 with
      | false => rfl
      | true => rw [inW_mono e] at h; cases h
  · rcases he with ⟨e1, e2⟩ | ⟨e1, e2⟩
    · rw [e1, e2, hb0, hb1, hc1]
      exact ⟨by rw [Bool.and_false]; rfl, rfl⟩
    · rw [e1, e2, hb0, hb1, hc1]
      exact ⟨by rw [Bool.false_and]; rfl, rfl⟩
theorem openW_all {L : List PP} {a : Int} : ∀ {n : Nat} {b : Int}, isD L a b n → openW L a n + n ≤ openW L a 0
  | 0, _, _ => Nat.le_refl _
  | n + 1, b, h => by
    have h1 := openW_lt h
    obtain ⟨c, hc, _⟩ := isD_pred h
    have := openW_all hc
    omega
theorem isD_le {L : List PP} {a b : Int} {n : Nat} (h : isD L a b n) : n ≤ L.length := by
  have h1 := openW_all h
  have h2 : openW L a 0 ≤ L.length := List.countP_le_length
  omega
open Classical in
/-- How far it is, as the document tells it. -/
noncomputable def farZ (L : List PP) (a b : Int) : Int := if h : ∃ n, isD L a b n then ((Classical.choose h : Nat) : Int) else -1
theorem farZ_some {L : List PP} {a b : Int} {n : Nat} (h : isD L a b n) : farZ L a b = n := by
  unfold farZ
  rw [dif_pos ⟨n, h⟩]
  have := Classical.choose_spec (⟨n, h⟩ : ∃ n, isD L a b n)
  rw [isD_one this h]
theorem farZ_none {L : List PP} {a b : Int} (h : ¬ ∃ n, isD L a b n) : farZ L a b = -1 := by
  unfold farZ
  rw [dif_neg h]
theorem farZ_symm (L : List PP) (a b : Int) : farZ L a b = farZ L b a := by
  by_cases h : ∃ n, isD L a b n
  · obtain ⟨n, hn⟩ := h
    rw [farZ_some hn, farZ_some (isD_symm hn)]
  · rw [farZ_none h, farZ_none (fun ⟨n, hn⟩ => h ⟨n, isD_symm hn⟩)]
theorem far_is {L : List PP} {s : Int} {F : Int → Option Int} (h : FarIs L s F) (y : Int) : F y = if farZ L s y < 0 then none else some (farZ L s y) := by
  by_cases hx : ∃ n, isD L s y n
  · obtain ⟨n, hn⟩ := hx
    rw [farZ_some hn, if_neg (by omega)]
    exact (h y).2 n hn
  · rw [farZ_none hx, if_pos (by omega)]
    cases e : F y with
    | none => rfl
    | some v =>
      obtain ⟨n, _, hn⟩ := (h y).1 v e
      exact absurd ⟨n, hn⟩ hx
/-- The first of those near that is so far from b. -/
noncomputable def nextZ (L : List PP) (b : Int) (n : Nat) (a : Int) : Int := ((nearL L a).find? fun x => decide (farZ L x b = n)).getD 0
/-- The path, so long. -/
noncomputable def pathZ (L : List PP) (b : Int) : Nat → Int → List Int
  | 0, a => [a]
  | n + 1, a => a :: pathZ L b n (nextZ L b n a)
theorem isD_next {L : List PP} {a b : Int} {n : Nat} (h : isD L a b (n + 1)) : ∃ c, nearB L a c ∧ isD L c b n := by
  obtain ⟨c, h1, h2⟩ := isD_pred (isD_symm h)
  exact ⟨c, nearB_symm h2, isD_symm h1⟩
theorem farZ_is {L : List PP} {a b : Int} {n : Nat} (h : farZ L a b = n) : isD L a b n := by
  by_cases hx : ∃ m, isD L a b m
  · obtain ⟨m, hm⟩ := hx
    rw [farZ_some hm] at h
    rw [← (show m = n by omega)]
    exact hm
  · rw [farZ_none hx] at h
    omega
theorem nextZ_spec {L : List PP} {a b : Int} {n : Nat} (h : isD L a b (n + 1)) : (nearL L a).find? (fun x => decide (farZ L x b = n)) = some (nextZ L b n a) ∧ nearB L a (nextZ L b n a) ∧ isD L (nextZ L b n a) b n := by
  obtain ⟨c, hc, hd⟩ := isD_next h
  cases e : (nearL L a).find? (fun x => decide (farZ L x b = n)) with
  | none =>
    rw [List.find?_eq_none] at e
    have := e c ((nearL_mem L a c).2 hc)
    rw [decide_eq_true_eq] at this
    exact absurd (farZ_some hd) this
  | some y =>
    have hy : nextZ L b n a = y := by unfold nextZ; rw [e]; rfl
    rw [hy]
    have h1 := List.find?_some e
    rw [decide_eq_true_eq] at h1
    exact ⟨rfl, (nearL_mem L a y).1 (List.mem_of_find?_eq_some e), farZ_is h1⟩
theorem idx_find (p q : Int → Bool) : ∀ (l : List Int) (j : Nat) (y : Int), (∀ x ∈ l, p x = q x) → l.find? q = some y → ∃ i : Nat, i < l.length ∧ idxFrom p l j = ((j + i : Nat) : Int) ∧ l.getD i 0 = y
  | [], _, _, _, h => by cases h
  | x :: r, j, y, hpq, h => by
    rw [idxFrom, hpq x (List.mem_cons_self ..)]
    rw [List.find?_cons] at h
    cases e : q x with
    | true =>
      rw [e] at h
      obtain rfl := Option.some.inj h
      exact ⟨0, by simp, by rw [if_pos rfl]; rfl, rfl⟩
    | false =>
      rw [e] at h
      obtain ⟨i, h1, h2, h3⟩ := idx_find p q r (j + 1) y (fun z hz => hpq z (List.mem_cons_of_mem _ hz)) h
      exact ⟨i + 1, by simp; omega, by rw [if_neg Bool.false_ne_true, h2]; congr 1; omega, by simpa using h3⟩
theorem path_tells {L : List PP} {b : Int} {F : Int → Option Int} (hF : FarIs L b F) : ∀ (n : Nat) (a : Int) (l0 : List Int), isD L a b n → l0.length + n ≤ 100000000 → pathLoop (n + 1) L F a b (l0 ++ [a]) = some (l0 ++ pathZ L b n a)
  | 0, a, l0, h, _ => by
    rw [pathLoop, if_pos (show a = b from h.1)]
    rfl
  | n + 1, a, l0, h, hl => by
    obtain ⟨h1, h2, h3⟩ := nextZ_spec h
    have hab : a ≠ b := by
      rintro rfl
      exact h.2 0 (by omega) rfl
    have hfa : F a = some ((n : Int) + 1) := (hF a).2 (n + 1) (isD_symm h)
    have hpq : ∀ x ∈ nearL L a, pathP F a x = decide (farZ L x b = n) := by
      intro x _
      unfold pathP
      rw [hfa, far_is hF x, farZ_symm L x b]
      have hw : wrap64 ((Option.getD (some ((n : Int) + 1)) 0) - 1) = (n : Int) := by
        show wrap64 ((n : Int) + 1 - 1) = n
        unfold wrap64
        omega
      rw [hw]
      by_cases hz : farZ L b x < 0
      · rw [if_pos hz]
        symm
        rw [Option.isSome_none, Bool.false_and, decide_eq_false_iff_not]
        omega
      · rw [if_neg hz, Option.isSome_some, Bool.true_and, Option.getD_some, Bool.eq_iff_iff, beq_iff_eq, decide_eq_true_eq]
    obtain ⟨i, hi1, hi2, hi3⟩ := idx_find _ _ _ 0 _ hpq h1
    rw [Nat.zero_add] at hi2
    have hrd : rd (nearL L a) (idxFrom (pathP F a) (nearL L a) 0) = nextZ L b n a := by
      rw [hi2]
      exact hi3
    rw [pathLoop, if_neg hab, if_neg (by rw [hi2, List.length_append, List.length_singleton]; omega), hrd, path_tells hF n _ (l0 ++ [a]) h3 (by rw [List.length_append, List.length_singleton]; omega)]
    rw [pathZ, List.append_assoc]
    rfl
theorem pathZ_len (L : List PP) (b : Int) : ∀ (n : Nat) (a : Int), (pathZ L b n a).length = n + 1
  | 0, _ => rfl
  | n + 1, a => by rw [pathZ, List.length_cons, pathZ_len L b n]
end Go.Proofs.Ythgjieigpfcekaa.Gr
