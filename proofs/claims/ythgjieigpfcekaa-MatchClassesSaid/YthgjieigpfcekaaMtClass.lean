/- Classes and links: the program's way and the document's come to the same (plain mathematics). -/
import Derived.Test.YthgjieigpfcekaaGrMath
import Derived.Test.YthgjieigpfcekaaQMx4
import Derived.Test.YthgjieigpfcekaaQMx6
import Derived.Test.YthgjieigpfcekaaQMx7
namespace Go.Proofs.Ythgjieigpfcekaa.Gr
open Go.RowKit Go.Proofs.Ythgjieigpfcekaa.QM Go.Proofs.YthgjieigpfcekaaW.PrintWords Go.Proofs.YthgjieigpfcekaaW.PrintLast
/-- Pairs of numbers below n. -/
def inL (n : Int) (L : List PP) : List PP := L.filter fun p => inB p.f0 n && inB p.f1 n
theorem rd_id (n : Nat) (i : Int) (h0 : 0 ≤ i) (h1 : i < n) : rd (idL n) i = i := by
  show (idL n).getD i.toNat 0 = i
  unfold idL
  rw [List.getD_eq_getElem?_getD, List.getElem?_map, List.getElem?_range (by omega)]
  show ((i.toNat : Nat) : Int) = i
  omega
theorem rd_ext (S T : List Int) (hl : S.length = T.length) (h : ∀ i : Int, 0 ≤ i → i < S.length → rd S i = rd T i) : S = T := by
  refine List.ext_getElem hl fun i h1 h2 => ?_
  have := h (i : Int) (by omega) (by omega)
  unfold rd at this
  rw [Int.toNat_natCast, List.getD_eq_getElem?_getD, List.getD_eq_getElem?_getD, List.getElem?_eq_getElem h1, List.getElem?_eq_getElem h2] at this
  exact this
/-- A row that tells for each number the least one of its class. -/
def Least (n : Nat) (L : List PP) (T : List Int) : Prop := T.length = n ∧ ∀ i : Int, 0 ≤ i → i < n → (0 ≤ rd T i ∧ rd T i < n) ∧ Conn L i (rd T i) ∧ ∀ j : Int, 0 ≤ j → j < n → Conn L i j → rd T i ≤ j
theorem Least.same {n : Nat} {L : List PP} {S T : List Int} (hS : Least n L S) (hT : Least n L T) : S = T := by
  refine rd_ext S T (hS.1.trans hT.1.symm) fun i h0 h1 => ?_
  rw [hS.1] at h1
  obtain ⟨a1, a2, a3⟩ := hS.2 i h0 h1
  obtain ⟨b1, b2, b3⟩ := hT.2 i h0 h1
  have := a3 _ b1.1 b1.2 b2
  have := b3 _ a1.1 a1.2 a2
  omega
theorem rootF_root (T : List Int) (hU : UF T) : ∀ (f : Nat) (m : Int), m.toNat < f → 0 ≤ m → m < T.length → rd T (rootF T m) = rootF T m
  | 0, m, h, _, _ => by omega
  | f + 1, m, hf, h0, h1 => by
    rw [rootF_eq T hU m h0 h1]
    by_cases e : rd T m = m
    · rw [if_pos e, e]
    · rw [if_neg e]
      have hu := hU m h0 h1
      exact rootF_root T hU f (rd T m) (by omega) hu.1 (by omega)
theorem rootF_fix (T : List Int) (hU : UF T) (m : Int) (h0 : 0 ≤ m) (h1 : m < T.length) (h : rd T m = m) : rootF T m = m := by
  rw [rootF_eq T hU m h0 h1, if_pos h]
theorem rootF_up (T : List Int) (hU : UF T) (m : Int) (h0 : 0 ≤ m) (h1 : m < T.length) : rootF T (rd T m) = rootF T m := by
  rw [rootF_eq T hU m h0 h1]
  by_cases e : rd T m = m
  · rw [if_pos e, e, rootF_fix T hU m h0 h1 e]
  · rw [if_neg e]
theorem rootF_idem (T : List Int) (hU : UF T) (m : Int) (h0 : 0 ≤ m) (h1 : m < T.length) : rootF T (rootF T m) = rootF T m := by
  have hl := rootF_le T hU m h0 h1
  exact rootF_fix T hU _ hl.1 (by omega) (rootF_root T hU (m.toNat + 1) m (by omega) h0 h1)
/-- A root is laid under another number of less size: all that led to the one leads to the other's root. -/
theorem rootF_lay (T : List Int) (hU : UF T) (j : Nat) (hj : j < T.length) (hr : rd T (j : Int) = j) (v : Int) (h0 : 0 ≤ v) (h1 : v < j) (hv : rd T v = v) : ∀ (f : Nat) (m : Int), m.toNat < f → 0 ≤ m → m < T.length → rootF (T.set j v) m = if rootF T m = j then v else rootF T m
  | 0, m, h, _, _ => by omega
  | f + 1, m, hf, m0, m1 => by
    have hU2 := uf_set T hU j hj v h0 (by omega)
    have hl : (T.set j v).length = T.length := List.length_set
    rw [rootF_eq (T.set j v) hU2 m m0 (by omega), rd_set T j hj v m m0]
    by_cases e : m = j
    · subst e
      rw [if_pos rfl, if_neg (by omega), rootF_fix T hU _ m0 m1 hr, if_pos rfl, rootF_fix (T.set j v) hU2 v h0 (by omega) (by rw [rd_set T j hj v v h0, if_neg (by omega), hv])]
    · rw [if_neg e]
      by_cases e2 : rd T m = m
      · rw [if_pos e2, rootF_fix T hU m m0 m1 e2, if_neg e]
      · rw [if_neg e2]
        have hu := hU m m0 m1
        rw [rootF_lay T hU j hj hr v h0 h1 hv f (rd T m) (by omega) hu.1 (by omega), rootF_up T hU m m0 m1]
/-- A number is laid under its own root: no root changes. -/
theorem rootF_short (T : List Int) (hU : UF T) (j : Nat) (hj : j < T.length) : ∀ (f : Nat) (m : Int), m.toNat < f → 0 ≤ m → m < T.length → rootF (T.set j (rootF T (j : Int))) m = rootF T m
  | 0, m, h, _, _ => by omega
  | f + 1, m, hf, m0, m1 => by
    have hjl := rootF_le T hU (j : Int) (by omega) (by omega)
    have hU2 := uf_set T hU j hj _ hjl.1 hjl.2
    have hl : (T.set j (rootF T (j : Int))).length = T.length := List.length_set
    rw [rootF_eq _ hU2 m m0 (by omega), rd_set T j hj _ m m0]
    by_cases e : m = j
    · subst e
      rw [if_pos rfl]
      by_cases e2 : rootF T (j : Int) = j
      · rw [if_pos e2, e2]
      · rw [if_neg e2, rootF_short T hU j hj f _ (by omega) hjl.1 (by omega), rootF_idem T hU _ m0 m1]
    · rw [if_neg e, rootF_eq T hU m m0 m1]
      have hu := hU m m0 m1
      by_cases e2 : rd T m = m
      · rw [if_pos e2, if_pos e2]
      · rw [if_neg e2, if_neg e2]
        exact rootF_short T hU j hj f (rd T m) (by omega) hu.1 (by omega)
/-- What the roots tell behind some pairs. -/
structure ClsInv (n : Nat) (L : List PP) (T : List Int) : Prop where
  uf : UF T
  len : T.length = n
  iff : ∀ i j : Int, 0 ≤ i → i < n → 0 ≤ j → j < n → (rootF T i = rootF T j ↔ Conn L i j)
theorem conn_in {n : Int} {L : List PP} {i j : Int} (h : Conn (inL n L) i j) (h0 : 0 ≤ i) (h1 : i < n) : 0 ≤ j ∧ j < n := by
  have hin : ∀ p ∈ inL n L, (0 ≤ p.f0 ∧ p.f0 < n) ∧ 0 ≤ p.f1 ∧ p.f1 < n := by
    intro p hp
    unfold inL at hp
    rw [List.mem_filter, Bool.and_eq_true] at hp
    exact ⟨inB_true hp.2.1, inB_true hp.2.2⟩
  cases h with
  | refl => exact ⟨h0, h1⟩
  | fwd p _ hp => exact (hin p hp).2
  | bwd p _ hp => exact (hin p hp).1
theorem cls_start (n : Nat) : ClsInv n (inL n []) (idL n) := by
  refine ⟨uf_id n, idL_len n, fun i j i0 i1 j0 j1 => ?_⟩
  have hf : ∀ k : Int, 0 ≤ k → k < n → rootF (idL n) k = k := fun k k0 k1 => rootF_fix _ (uf_id n) k k0 (by rw [idL_len]; exact k1) (rd_id n k k0 k1)
  rw [hf i i0 i1, hf j j0 j1]
  constructor
  · rintro rfl
    exact .refl
  · intro h
    cases h with
    | refl => rfl
    | fwd p _ hp => cases hp
    | bwd p _ hp => cases hp
theorem cls_one (n : Nat) (L : List PP) (T : List Int) (p : PP) (hI : ClsInv n (inL n L) T) : ClsInv n (inL n (L ++ [p])) (clsStep n T p) := by
  obtain ⟨hU, hl, hi⟩ := hI
  unfold clsStep
  by_cases hp : (inB p.f0 n && inB p.f1 n) = true
  · rw [if_pos hp]
    have e : inL n (L ++ [p]) = inL n L ++ [p] := by
      unfold inL
      rw [List.filter_append, List.filter_cons, if_pos hp]
      rfl
    rw [e]
    rw [Bool.and_eq_true] at hp
    obtain ⟨a0, a1⟩ := inB_true hp.1
    obtain ⟨b0, b1⟩ := inB_true hp.2
    obtain ⟨a, b⟩ := p
    dsimp only at a0 a1 b0 b1 ⊢
    have ra := rootF_le T hU a a0 (by omega)
    have rb := rootF_le T hU b b0 (by omega)
    have fa := rootF_root T hU _ a (Nat.lt_succ_self _) a0 (by omega)
    have fb := rootF_root T hU _ b (Nat.lt_succ_self _) b0 (by omega)
    have hm : ∃ T', T.set (max (rootF T a) (rootF T b)).toNat (min (rootF T a) (rootF T b)) = T' ∧ UF T' ∧ T'.length = n ∧ ∀ i : Int, 0 ≤ i → i < n → rootF T' i = if rootF T i = rootF T a ∨ rootF T i = rootF T b then min (rootF T a) (rootF T b) else rootF T i := by
      refine ⟨_, rfl, uf_set T hU _ (by omega) _ (by omega) (by omega), by rw [List.length_set]; exact hl, fun i i0 i1 => ?_⟩
      rcases Int.lt_trichotomy (rootF T a) (rootF T b) with h | h | h
      · have hx : max (rootF T a) (rootF T b) = rootF T b := by omega
        have hn : min (rootF T a) (rootF T b) = rootF T a := by omega
        rw [hx, hn, rootF_lay T hU (rootF T b).toNat (by omega) (by rw [show (((rootF T b).toNat : Nat) : Int) = rootF T b by omega]; exact fb) _ ra.1 (by omega) fa _ i (Nat.lt_succ_self _) i0 (by omega), show (((rootF T b).toNat : Nat) : Int) = rootF T b by omega]
        by_cases e1 : rootF T i = rootF T b
        · rw [if_pos e1, if_pos (.inr e1)]
        · rw [if_neg e1]
          by_cases e2 : rootF T i = rootF T a
          · rw [if_pos (.inl e2), e2]
          · rw [if_neg (by rintro (h | h) <;> contradiction)]
      · have hx : max (rootF T a) (rootF T b) = rootF T a := by omega
        have hn : min (rootF T a) (rootF T b) = rootF T a := by omega
        rw [hx, hn]
        have hT : T.set (rootF T a).toNat (rootF T a) = T := by
          refine rd_ext _ _ List.length_set fun k k0 k1 => ?_
          rw [rd_set T _ (by omega) _ k k0]
          by_cases e : k = ((rootF T a).toNat : Nat)
          · rw [if_pos e, e, show (((rootF T a).toNat : Nat) : Int) = rootF T a by omega, fa]
          · rw [if_neg e]
        rw [hT, ← h]
        by_cases e1 : rootF T i = rootF T a
        · rw [if_pos (.inl e1), e1]
        · rw [if_neg (by rintro (h | h) <;> contradiction)]
      · have hx : max (rootF T a) (rootF T b) = rootF T a := by omega
        have hn : min (rootF T a) (rootF T b) = rootF T b := by omega
        rw [hx, hn, rootF_lay T hU (rootF T a).toNat (by omega) (by rw [show (((rootF T a).toNat : Nat) : Int) = rootF T a by omega]; exact fa) _ rb.1 (by omega) fb _ i (Nat.lt_succ_self _) i0 (by omega), show (((rootF T a).toNat : Nat) : Int) = rootF T a by omega]
        by_cases e1 : rootF T i = rootF T a
        · rw [if_pos e1, if_pos (.inl e1)]
        · rw [if_neg e1]
          by_cases e2 : rootF T i = rootF T b
          · rw [if_pos (.inr e2), e2]
          · rw [if_neg (by rintro (h | h) <;> contradiction)]
    obtain ⟨T', hT', hU', hl', hr⟩ := hm
    rw [hT']
    have hsub : ∀ q ∈ inL n L, q ∈ inL n L ++ [(⟨a, b⟩ : PP)] := fun q hq => List.mem_append.2 (.inl hq)
    have hab : Conn (inL n L ++ [(⟨a, b⟩ : PP)]) a b := Conn.one (p := ⟨a, b⟩) (List.mem_append.2 (.inr (List.mem_singleton.2 rfl)))
    refine ⟨hU', hl', fun i j i0 i1 j0 j1 => ?_⟩
    have hci : ∀ k : Int, 0 ≤ k → k < n → rootF T k = rootF T a ∨ rootF T k = rootF T b → Conn (inL n L ++ [(⟨a, b⟩ : PP)]) k a := by
      intro k k0 k1 h
      rcases h with h | h
      · exact ((hi k a k0 k1 a0 a1).1 h).mono hsub
      · exact (((hi k b k0 k1 b0 b1).1 h).mono hsub).trans hab.symm
    constructor
    · intro h
      rw [hr i i0 i1, hr j j0 j1] at h
      by_cases e1 : rootF T i = rootF T a ∨ rootF T i = rootF T b
      · by_cases e2 : rootF T j = rootF T a ∨ rootF T j = rootF T b
        · exact (hci i i0 i1 e1).trans (hci j j0 j1 e2).symm
        · rw [if_pos e1, if_neg e2] at h
          exfalso
          apply e2
          omega
      · by_cases e2 : rootF T j = rootF T a ∨ rootF T j = rootF T b
        · rw [if_neg e1, if_pos e2] at h
          exfalso
          apply e1
          omega
        · rw [if_neg e1, if_neg e2] at h
          exact ((hi i j i0 i1 j0 j1).1 h).mono hsub
    · intro h
      have hin : ∀ q ∈ inL n L ++ [(⟨a, b⟩ : PP)], ((0 ≤ q.f0 ∧ q.f0 < n) ∧ 0 ≤ q.f1 ∧ q.f1 < n) ∧ rootF T' q.f0 = rootF T' q.f1 := by
        intro q hq
        rcases List.mem_append.1 hq with hq | hq
        · have hq2 := hq
          unfold inL at hq2
          rw [List.mem_filter, Bool.and_eq_true] at hq2
          have c0 := inB_true hq2.2.1
          have c1 := inB_true hq2.2.2
          refine ⟨⟨c0, c1⟩, ?_⟩
          have := (hi q.f0 q.f1 c0.1 c0.2 c1.1 c1.2).2 (Conn.one hq)
          rw [hr _ c0.1 c0.2, hr _ c1.1 c1.2, this]
        · obtain rfl := List.mem_singleton.1 hq
          refine ⟨⟨⟨a0, a1⟩, b0, b1⟩, ?_⟩
          dsimp only
          rw [hr a a0 a1, hr b b0 b1, if_pos (.inl rfl), if_pos (.inr rfl)]
      clear j0 j1
      induction h with
      | refl => rfl
      | fwd q _ hq ih => rw [ih, (hin q hq).2]
      | bwd q _ hq ih => rw [ih, (hin q hq).2]
  · rw [if_neg hp]
    have e : inL n (L ++ [p]) = inL n L := by
      unfold inL
      rw [List.filter_append, List.filter_cons, if_neg hp]
      simp
    rw [e]
    exact ⟨hU, hl, hi⟩
theorem cls_all (n : Nat) : ∀ (R L : List PP) (T : List Int), ClsInv n (inL n L) T → ClsInv n (inL n (L ++ R)) (clsLoop n T R)
  | [], L, T, h => by rw [List.append_nil]; exact h
  | p :: r, L, T, h => by
    have := cls_all n r (L ++ [p]) _ (cls_one n L T p h)
    rw [List.append_assoc] at this
    exact this
theorem clsFin_spec (n : Nat) : ∀ (k j : Nat) (T : List Int), k + j = n → UF T → T.length = n → (∀ i : Int, 0 ≤ i → i < j → rd T i = rootF T i) → (clsFin k j T).length = n ∧ ∀ i : Int, 0 ≤ i → i < n → rd (clsFin k j T) i = rootF T i
  | 0, j, T, hk, hU, hl, h => ⟨hl, fun i i0 i1 => h i i0 (by omega)⟩
  | k + 1, j, T, hk, hU, hl, h => by
    have hj : j < T.length := by omega
    have hjl := rootF_le T hU (j : Int) (by omega) (by omega)
    have hU2 := uf_set T hU j hj _ hjl.1 hjl.2
    have hl2 : (T.set j (rootF T (j : Int))).length = n := by rw [List.length_set]; exact hl
    have hs : ∀ m : Int, 0 ≤ m → m < n → rootF (T.set j (rootF T (j : Int))) m = rootF T m := fun m m0 m1 => rootF_short T hU j hj _ m (Nat.lt_succ_self _) m0 (by omega)
    obtain ⟨c1, c2⟩ := clsFin_spec n k (j + 1) _ (by omega) hU2 hl2 (fun i i0 i1 => by
      rw [rd_set T j hj _ i i0, hs i i0 (by omega)]
      by_cases e : i = j
      · rw [if_pos e, e]
      · rw [if_neg e]
        exact h i i0 (by omega))
    exact ⟨c1, fun i i0 i1 => by rw [clsFin, c2 i i0 i1, hs i i0 i1]⟩
theorem cls_least (n : Nat) (L : List PP) : Least n (inL n L) (clsFin n 0 (clsLoop n (idL n) L)) := by
  have hI := cls_all n L [] (idL n) (cls_start n)
  rw [List.nil_append] at hI
  obtain ⟨hU, hl, hi⟩ := hI
  obtain ⟨c1, c2⟩ := clsFin_spec n n 0 _ (by omega) hU hl (fun i i0 i1 => by omega)
  refine ⟨c1, fun i i0 i1 => ?_⟩
  rw [c2 i i0 i1]
  have hle := rootF_le _ hU i i0 (by omega)
  have hid := rootF_idem _ hU i i0 (by omega)
  refine ⟨⟨hle.1, by omega⟩, (hi i _ i0 i1 hle.1 (by omega)).1 hid.symm, fun j j0 j1 h => ?_⟩
  rw [(hi i j i0 i1 j0 j1).2 h]
  exact (rootF_le _ hU j j0 (by omega)).2
/-! ### the document's rounds -/
theorem least_is (n : Nat) (L : List PP) (i : Int) : ∃ m : Int, (0 ≤ i ∧ i < n → (0 ≤ m ∧ m < n) ∧ Conn (inL n L) i m ∧ ∀ j : Int, 0 ≤ j → j < n → Conn (inL n L) i j → m ≤ j) :=
  ⟨rd (clsFin n 0 (clsLoop n (idL n) L)) i, fun h => (cls_least n L).2 i h.1 h.2⟩
/-- The least of a number's class. -/
def lm (n : Nat) (L : List PP) (i : Int) : Int := rd (clsFin n 0 (clsLoop n (idL n) L)) i
theorem lm_conn {n : Nat} {L : List PP} {i j : Int} (i0 : 0 ≤ i) (i1 : i < n) (h : Conn (inL n L) i j) : lm n L i = lm n L j := by
  have hj := conn_in h i0 (by exact i1)
  obtain ⟨a1, a2, a3⟩ := (cls_least n L).2 i i0 i1
  obtain ⟨b1, b2, b3⟩ := (cls_least n L).2 j hj.1 hj.2
  have := a3 _ b1.1 b1.2 (h.trans b2)
  have := b3 _ a1.1 a1.2 (h.symm.trans a2)
  show rd _ i = rd _ j
  omega
structure MinInv (n : Nat) (L : List PP) (T : List Int) : Prop where
  len : T.length = n
  le : ∀ i : Int, 0 ≤ i → i < n → 0 ≤ rd T i ∧ rd T i ≤ i ∧ lm n L i ≤ rd T i
/-- Which numbers have their least one. -/
def okB (n : Nat) (L : List PP) (T : List Int) (i : Int) : Bool := decide (rd T i = lm n L i)
theorem min_one (n : Nat) (L : List PP) (T : List Int) (p : PP) (hp : p ∈ L) (hI : MinInv n L T) : MinInv n L (minStep n T p) ∧ (∀ i : Int, 0 ≤ i → i < n → okB n L T i = true → okB n L (minStep n T p) i = true) ∧
    ((inB p.f0 n && inB p.f1 n) = true → okB n L T p.f0 = true ∨ okB n L T p.f1 = true → okB n L (minStep n T p) p.f0 = true ∧ okB n L (minStep n T p) p.f1 = true) := by
  unfold minStep
  by_cases h : (inB p.f0 n && inB p.f1 n) = true
  · rw [if_pos h]
    have hin : p ∈ inL n L := List.mem_filter.2 ⟨hp, h⟩
    rw [Bool.and_eq_true] at h
    obtain ⟨a0, a1⟩ := inB_true h.1
    obtain ⟨b0, b1⟩ := inB_true h.2
    have hlm := lm_conn a0 a1 (Conn.one hin)
    obtain ⟨a, b⟩ := p
    dsimp only at a0 a1 b0 b1 hlm ⊢
    obtain ⟨hl, hle⟩ := hI
    have ha := hle a a0 a1
    have hb := hle b b0 b1
    have hr : ∀ i : Int, 0 ≤ i → rd ((T.set a.toNat (min (rd T a) (rd T b))).set b.toNat (min (rd T a) (rd T b))) i = if i = b ∨ i = a then min (rd T a) (rd T b) else rd T i := by
      intro i i0
      rw [rd_set _ _ (by rw [List.length_set]; omega) _ i i0, rd_set _ _ (by omega) _ i i0, show ((a.toNat : Nat) : Int) = a by omega, show ((b.toNat : Nat) : Int) = b by omega]
      by_cases e1 : i = b
      · rw [if_pos e1, if_pos (.inl e1)]
      · rw [if_neg e1]
        by_cases e2 : i = a
        · rw [if_pos e2, if_pos (.inr e2)]
        · rw [if_neg e2, if_neg (by rintro (h | h) <;> contradiction)]
    have hl' : ((T.set a.toNat (min (rd T a) (rd T b))).set b.toNat (min (rd T a) (rd T b))).length = n := by rw [List.length_set, List.length_set]; exact hl
    generalize (T.set a.toNat (min (rd T a) (rd T b))).set b.toNat (min (rd T a) (rd T b)) = T' at hr hl'
    refine ⟨⟨hl', fun i i0 i1 => ?_⟩, fun i i0 i1 hok => ?_, fun _ hok => ?_⟩
    · rw [hr i i0]
      have := hle i i0 i1
      by_cases e : i = b ∨ i = a
      · rw [if_pos e]
        rcases e with rfl | rfl <;> omega
      · rw [if_neg e]
        exact this
    · unfold okB at hok ⊢
      rw [decide_eq_true_eq] at hok ⊢
      rw [hr i i0]
      by_cases e : i = b ∨ i = a
      · rw [if_pos e]
        rcases e with rfl | rfl <;> omega
      · rw [if_neg e]
        exact hok
    · unfold okB at hok ⊢
      simp only [decide_eq_true_eq] at hok ⊢
      rw [hr a a0, hr b b0, if_pos (.inr rfl), if_pos (.inl rfl)]
      omega
  · rw [if_neg h]
    exact ⟨hI, fun _ _ _ h => h, fun h' => absurd h' h⟩
theorem min_round (n : Nat) (L : List PP) : ∀ (R : List PP) (T : List Int), (∀ p ∈ R, p ∈ L) → MinInv n L T → MinInv n L (minRound n T R) ∧ (∀ i : Int, 0 ≤ i → i < n → okB n L T i = true → okB n L (minRound n T R) i = true) ∧
    ∀ p ∈ R, (inB p.f0 n && inB p.f1 n) = true → okB n L T p.f0 = true ∨ okB n L T p.f1 = true → okB n L (minRound n T R) p.f0 = true ∧ okB n L (minRound n T R) p.f1 = true
  | [], T, _, h => ⟨h, fun _ _ _ h => h, fun p hp => by cases hp⟩
  | q :: r, T, hR, h => by
    obtain ⟨a1, a2, a3⟩ := min_one n L T q (hR q (List.mem_cons_self ..)) h
    obtain ⟨b1, b2, b3⟩ := min_round n L r (minStep n T q) (fun p hp => hR p (List.mem_cons_of_mem _ hp)) a1
    refine ⟨b1, fun i i0 i1 hi => b2 i i0 i1 (a2 i i0 i1 hi), fun p hp hin hok => ?_⟩
    have hin2 := hin
    rw [Bool.and_eq_true] at hin2
    have c0 := inB_true hin2.1
    have c1 := inB_true hin2.2
    rcases List.mem_cons.1 hp with rfl | hp
    · have := a3 hin hok
      exact ⟨b2 _ c0.1 c0.2 this.1, b2 _ c1.1 c1.2 this.2⟩
    · exact b3 p hp hin (hok.imp (a2 _ c0.1 c0.2) (a2 _ c1.1 c1.2))
/-- How many have not yet their least one. -/
def badN (n : Nat) (L : List PP) (T : List Int) : Nat := (List.range n).countP fun (i : Nat) => !okB n L T (i : Int)
theorem countP_lt {α : Type} (p q : α → Bool) : ∀ (l : List α), (∀ x ∈ l, q x = true → p x = true) → (∃ x ∈ l, p x = true ∧ q x = false) → l.countP q < l.countP p
  | [], _, ⟨x, hx, _⟩ => by cases hx
  | y :: r, h, ⟨x, hx, h1, h2⟩ => by
    have hle : r.countP q ≤ r.countP p := List.countP_mono_left fun z hz => h z (List.mem_cons_of_mem _ hz)
    rw [List.countP_cons, List.countP_cons]
    rcases List.mem_cons.1 hx with rfl | hx
    · rw [h1, h2, if_pos rfl, if_neg Bool.false_ne_true]
      omega
    · have := countP_lt p q r (fun z hz => h z (List.mem_cons_of_mem _ hz)) ⟨x, hx, h1, h2⟩
      have hy := h y (List.mem_cons_self ..)
      cases hq : q y with
      | false => rw [if_neg Bool.false_ne_true]; split <;> omega
      | true => rw [hy hq]; omega
theorem min_less (n : Nat) (L : List PP) (T : List Int) (h : MinInv n L T) (hb : 0 < badN n L T) : badN n L (minRound n T L) < badN n L T := by
  obtain ⟨a1, a2, a3⟩ := min_round n L L T (fun _ h => h) h
  obtain ⟨i, hi, hbad⟩ := List.countP_pos_iff.1 hb
  rw [List.mem_range] at hi
  have hex : ∃ p ∈ inL n L, okB n L T p.f0 ≠ okB n L T p.f1 := by
    by_cases hall : ∃ p ∈ inL n L, okB n L T p.f0 ≠ okB n L T p.f1
    · exact hall
    · exfalso
      have heq : ∀ p ∈ inL n L, okB n L T p.f0 = okB n L T p.f1 := fun p hp => by
        by_cases e : okB n L T p.f0 = okB n L T p.f1
        · exact e
        · exact absurd ⟨p, hp, e⟩ hall
      have hmv : ∀ x y : Int, Conn (inL n L) x y → okB n L T x = true → okB n L T y = true := by
        intro x y hc hx
        induction hc with
        | refl => exact hx
        | fwd p _ hp ih => rw [← heq p hp]; exact ih
        | bwd p _ hp ih => rw [heq p hp]; exact ih
      obtain ⟨m1, m2, m3⟩ := (cls_least n L).2 (i : Int) (by omega) (by omega)
      have hlm : okB n L T (lm n L i) = true := by
        have hx := h.le _ m1.1 m1.2
        have hy := lm_conn (by omega) (by omega) m2
        have hx2 : lm n L (i : Int) = rd (clsFin n 0 (clsLoop n (idL n) L)) i := rfl
        unfold okB
        rw [decide_eq_true_eq]
        rw [← hx2] at hx hy
        omega
      have := hmv _ _ m2.symm hlm
      rw [this] at hbad
      cases hbad
  obtain ⟨p, hp, hne⟩ := hex
  have hp2 := hp
  unfold inL at hp2
  rw [List.mem_filter] at hp2
  have hin := hp2.2
  rw [Bool.and_eq_true] at hin
  have c0 := inB_true hin.1
  have c1 := inB_true hin.2
  unfold badN
  refine countP_lt _ _ _ (fun x hx hq => ?_) ?_
  · rw [List.mem_range] at hx
    cases e : okB n L T (x : Int) with
    | false => rfl
    | true => rw [a2 _ (by omega) (by omega) e] at hq; cases hq
  · cases e0 : okB n L T p.f0 with
    | true =>
      have e1 : okB n L T p.f1 = false := by
        cases e1 : okB n L T p.f1 with
        | false => rfl
        | true => exact absurd (e0.trans e1.symm) hne
      refine ⟨p.f1.toNat, List.mem_range.2 (by omega), ?_⟩
      rw [show ((p.f1.toNat : Nat) : Int) = p.f1 by omega, e1, (a3 p hp2.1 hp2.2 (.inl e0)).2]
      exact ⟨rfl, rfl⟩
    | false =>
      have e1 : okB n L T p.f1 = true := by
        cases e1 : okB n L T p.f1 with
        | true => rfl
        | false => exact absurd (e0.trans e1.symm) hne
      refine ⟨p.f0.toNat, List.mem_range.2 (by omega), ?_⟩
      rw [show ((p.f0.toNat : Nat) : Int) = p.f0 by omega, e0, (a3 p hp2.1 hp2.2 (.inr e1)).1]
      exact ⟨rfl, rfl⟩
theorem min_all (n : Nat) (L : List PP) : ∀ (k : Nat) (T : List Int), MinInv n L T → badN n L T ≤ k → MinInv n L (minRounds n L k T) ∧ badN n L (minRounds n L k T) = 0
  | 0, T, h, hb => ⟨h, by show badN n L T = 0; omega⟩
  | k + 1, T, h, hb => by
    have h2 := (min_round n L L T (fun _ h => h) h)
    refine min_all n L k (minRound n T L) h2.1 ?_
    rcases Nat.eq_zero_or_pos (badN n L T) with e | e
    · have : badN n L (minRound n T L) ≤ badN n L T := by
        unfold badN
        refine List.countP_mono_left fun x hx hq => ?_
        rw [List.mem_range] at hx
        cases e : okB n L T (x : Int) with
        | false => rfl
        | true => rw [h2.2.1 _ (by omega) (by omega) e] at hq; cases hq
      omega
    · have := min_less n L T h e
      omega
theorem cls_same (n : Nat) (L : List PP) : minRounds n L (n + 1) (idL n) = clsFin n 0 (clsLoop n (idL n) L) := by
  have h0 : MinInv n L (idL n) := by
    refine ⟨idL_len n, fun i i0 i1 => ?_⟩
    rw [rd_id n i i0 i1]
    exact ⟨i0, Int.le_refl _, ((cls_least n L).2 i i0 i1).2.2 i i0 i1 .refl⟩
  have hb : badN n L (idL n) ≤ n + 1 := by
    have : badN n L (idL n) ≤ (List.range n).length := List.countP_le_length
    rw [List.length_range] at this
    omega
  obtain ⟨h1, h2⟩ := min_all n L (n + 1) _ h0 hb
  refine rd_ext _ _ (h1.len.trans (cls_least n L).1.symm) fun i i0 i1 => ?_
  rw [h1.len] at i1
  unfold badN at h2
  rw [List.countP_eq_zero] at h2
  have := h2 i.toNat (List.mem_range.2 (by omega))
  rw [show ((i.toNat : Nat) : Int) = i by omega] at this
  cases e : okB n L (minRounds n L (n + 1) (idL n)) i with
  | false => rw [e] at this; exact absurd rfl this
  | true =>
    unfold okB at e
    rw [decide_eq_true_eq] at e
    exact e
/-- All ends of pairs. -/
def endsL (L : List PP) : List Int := L.flatMap fun p => [p.f0, p.f1]
theorem ends0 {L : List PP} {p : PP} (h : p ∈ L) : p.f0 ∈ endsL L := List.mem_flatMap.2 ⟨p, h, by simp⟩
theorem ends1 {L : List PP} {p : PP} (h : p ∈ L) : p.f1 ∈ endsL L := List.mem_flatMap.2 ⟨p, h, by simp⟩
theorem ends_len (L : List PP) : (endsL L).length = 2 * L.length := by
  induction L with
  | nil => rfl
  | cons p r ih =>
    show ([p.f0, p.f1] ++ endsL r).length = _
    rw [List.length_append, ih]
    simp
    omega
/-- How many ends are not yet met. -/
def outN (L : List PP) (S : List Int) : Nat := (endsL L).countP fun x => !S.contains x
theorem outN_le (L : List PP) (S : List Int) : outN L S ≤ 2 * L.length := by
  rw [← ends_len]
  exact List.countP_le_length
theorem outN_lt (L : List PP) (S : List Int) (y : Int) (hy : y ∈ endsL L) (h : S.contains y = false) : outN L (y :: S) < outN L S := by
  unfold outN
  refine countP_lt _ _ _ (fun x _ hq => ?_) ⟨y, hy, by simp only [h]; rfl, by simp⟩
  rw [Bool.not_eq_true'] at hq ⊢
  rw [List.contains_cons, Bool.or_eq_false_iff] at hq
  exact hq.2
structure Gr (L : List PP) (a : Int) (st st' : List Int × List Int) : Prop where
  s : ∀ y ∈ st.1, y ∈ st'.1
  o : ∀ y ∈ st.2, y ∈ st'.2
  c : (∀ y ∈ st.1, Conn L a y) → ∀ y ∈ st'.1, Conn L a y
  n : ∀ y ∈ st'.1, y ∈ st.1 ∨ y ∈ st'.2
  i : (∀ y ∈ st.2, y ∈ st.1) → ∀ y ∈ st'.2, y ∈ st'.1
  m : st'.1.length + outN L st'.1 ≤ st.1.length + outN L st.1
  e : st'.1.length + st.2.length = st.1.length + st'.2.length
theorem Gr.refl {L : List PP} {a : Int} (st : List Int × List Int) : Gr L a st st := ⟨fun _ h => h, fun _ h => h, fun h => h, fun _ h => .inl h, fun h => h, Nat.le_refl _, rfl⟩
theorem Gr.trans {L : List PP} {a : Int} {s t u : List Int × List Int} (h : Gr L a s t) (k : Gr L a t u) : Gr L a s u :=
  ⟨fun y hy => k.s y (h.s y hy), fun y hy => k.o y (h.o y hy), fun hc => k.c (h.c hc), fun y hy => by
    rcases k.n y hy with h1 | h1
    · rcases h.n y h1 with h2 | h2
      · exact .inl h2
      · exact .inr (k.o y h2)
    · exact .inr h1, fun hi => k.i (h.i hi), Nat.le_trans k.m h.m, by have := h.e; have := k.e; omega⟩
theorem lkdStep_gr (L : List PP) (a x : Int) (st : List Int × List Int) (q : PP) (hx : Conn L a x) (hq : q ∈ L ∨ ∃ p ∈ L, q = ⟨p.f1, p.f0⟩) : Gr L a st (lkdStep x st q) ∧ (q.f0 = x → q.f1 ∈ (lkdStep x st q).1) := by
  have hc : q.f0 = x → Conn L a q.f1 := by
    intro e
    rw [← e] at hx
    rcases hq with h | ⟨p, hp, rfl⟩
    · exact .fwd q hx h
    · exact .bwd p hx hp
  have he : q.f1 ∈ endsL L := by
    rcases hq with h | ⟨p, hp, rfl⟩
    · exact ends1 h
    · exact ends0 hp
  unfold lkdStep
  by_cases h : q.f0 = x ∧ st.1.contains q.f1 = false
  · rw [if_pos h]
    refine ⟨⟨fun y hy => List.mem_cons_of_mem _ hy, fun y hy => List.mem_append.2 (.inl hy), fun hs y hy => ?_, fun y hy => ?_, fun hi y hy => ?_, ?_, ?_⟩, fun _ => List.mem_cons_self ..⟩
    · rcases List.mem_cons.1 hy with rfl | hy
      · exact hc h.1
      · exact hs y hy
    · rcases List.mem_cons.1 hy with rfl | hy
      · exact .inr (by simp)
      · exact .inl hy
    · rcases List.mem_append.1 hy with hy | hy
      · exact List.mem_cons_of_mem _ (hi y hy)
      · rw [List.mem_singleton.1 hy]
        exact List.mem_cons_self ..
    · have := outN_lt L st.1 q.f1 he h.2
      simp only [List.length_cons]
      omega
    · simp only [List.length_cons, List.length_append, List.length_nil]
      omega
  · rw [if_neg h]
    refine ⟨Gr.refl st, fun e => ?_⟩
    cases hq : st.1.contains q.f1 with
    | true => exact List.contains_iff_mem.1 hq
    | false => exact absurd ⟨e, hq⟩ h
theorem lkdTwo_gr (L : List PP) (a x : Int) (st : List Int × List Int) (p : PP) (hx : Conn L a x) (hp : p ∈ L) : Gr L a st (lkdTwo x st p) ∧ (p.f0 = x → p.f1 ∈ (lkdTwo x st p).1) ∧ (p.f1 = x → p.f0 ∈ (lkdTwo x st p).1) := by
  have h1 := lkdStep_gr L a x st p hx (.inl hp)
  have h2 := lkdStep_gr L a x (lkdStep x st p) ⟨p.f1, p.f0⟩ hx (.inr ⟨p, hp, rfl⟩)
  exact ⟨h1.1.trans h2.1, fun e => h2.1.s _ (h1.2 e), fun e => h2.2 e⟩
theorem lkdPass_gr (L : List PP) (a x : Int) (hx : Conn L a x) : ∀ (R : List PP) (st : List Int × List Int), (∀ p ∈ R, p ∈ L) → Gr L a st (lkdPass x R st) ∧ ∀ p ∈ R, (p.f0 = x → p.f1 ∈ (lkdPass x R st).1) ∧ (p.f1 = x → p.f0 ∈ (lkdPass x R st).1)
  | [], st, _ => ⟨Gr.refl st, fun p hp => by cases hp⟩
  | q :: r, st, hR => by
    obtain ⟨h1, h2, h3⟩ := lkdTwo_gr L a x st q hx (hR q (List.mem_cons_self ..))
    obtain ⟨k1, k2⟩ := lkdPass_gr L a x hx r (lkdTwo x st q) (fun p hp => hR p (List.mem_cons_of_mem _ hp))
    refine ⟨h1.trans k1, fun p hp => ?_⟩
    rcases List.mem_cons.1 hp with rfl | hp
    · exact ⟨fun e => k1.s _ (h2 e), fun e => k1.s _ (h3 e)⟩
    · exact k2 p hp
theorem lkdLoop_nil (k : Nat) (L : List PP) (b : Int) (S : List Int) (h : S.length ≤ 1000000000) : lkdLoop (k + 1) L b S [] = some false := by
  rw [lkdLoop, if_neg (by simp only [List.length_nil]; omega)]
theorem lkdLoop_cons (k : Nat) (L : List PP) (b x : Int) (S r : List Int) (h : S.length ≤ 1000000000) (h2 : r.length < 1000000000) : lkdLoop (k + 1) L b S (x :: r) = if x = b then some true else lkdLoop k L b (lkdPass x L (S, r)).1 (lkdPass x L (S, r)).2 := by
  rw [lkdLoop, if_neg (by simp only [List.length_cons]; omega)]
theorem lkdLoop_tells (L : List PP) (a b : Int) (B : Nat) (hB : B ≤ 1000000000) : ∀ (d : Nat) (S O : List Int), B + O.length ≤ d + S.length → S.length + outN L S ≤ B → O.length ≤ S.length → a ∈ S → (∀ y ∈ S, Conn L a y) → (∀ y ∈ O, y ∈ S) →
    (∀ y ∈ S, y ∈ O ∨ (y ≠ b ∧ ∀ p ∈ L, (p.f0 = y → p.f1 ∈ S) ∧ (p.f1 = y → p.f0 ∈ S))) → lkdLoop (d + 1) L b S O = some (linkB L a b) := by
  intro d
  induction d with
  | zero =>
    intro S O h1 h2 h3 ha hS hO hC
    cases O with
    | cons x r => simp only [List.length_cons] at h1 h3; omega
    | nil =>
      rw [lkdLoop_nil _ _ _ _ (by omega)]
      have hc : ∀ p ∈ L, S.contains p.f0 = S.contains p.f1 := fun p hp => by
        rw [Bool.eq_iff_iff, List.contains_iff_mem, List.contains_iff_mem]
        exact ⟨fun h => by rcases hC _ h with h' | h'; cases h'; exact (h'.2 p hp).1 rfl, fun h => by rcases hC _ h with h' | h'; cases h'; exact (h'.2 p hp).2 rfl⟩
      rw [← closed_iff ha hc hS b]
      cases e : S.contains b with
      | false => rfl
      | true =>
        rcases hC b (List.contains_iff_mem.1 e) with h | h
        · cases h
        · exact absurd rfl h.1
  | succ d ih =>
    intro S O h1 h2 h3 ha hS hO hC
    cases O with
    | nil =>
      rw [lkdLoop_nil _ _ _ _ (by omega)]
      have hc : ∀ p ∈ L, S.contains p.f0 = S.contains p.f1 := fun p hp => by
        rw [Bool.eq_iff_iff, List.contains_iff_mem, List.contains_iff_mem]
        exact ⟨fun h => by rcases hC _ h with h' | h'; cases h'; exact (h'.2 p hp).1 rfl, fun h => by rcases hC _ h with h' | h'; cases h'; exact (h'.2 p hp).2 rfl⟩
      rw [← closed_iff ha hc hS b]
      cases e : S.contains b with
      | false => rfl
      | true =>
        rcases hC b (List.contains_iff_mem.1 e) with h | h
        · cases h
        · exact absurd rfl h.1
    | cons x r =>
      rw [lkdLoop_cons _ _ _ _ _ _ (by omega) (by simp only [List.length_cons] at h3; omega)]
      have hxS := hO x (List.mem_cons_self ..)
      have hxc := hS x hxS
      by_cases e : x = b
      · rw [if_pos e]
        subst e
        rw [linkB_iff.2 hxc]
      · rw [if_neg e]
        obtain ⟨g, gp⟩ := lkdPass_gr L a x hxc L (S, r) (fun _ h => h)
        generalize lkdPass x L (S, r) = st' at g gp
        obtain ⟨S', O'⟩ := st'
        have ge := g.e
        have gm := g.m
        dsimp only at ge gm gp ⊢
        simp only [List.length_cons] at h1 h3
        refine ih S' O' (by omega) (by omega) (by omega) (g.s a ha) (g.c hS) (g.i fun y hy => hO y (List.mem_cons_of_mem _ hy)) (fun y hy => ?_)
        rcases g.n y hy with h | h
        · rcases hC y h with h' | h'
          · rcases List.mem_cons.1 h' with rfl | h'
            · exact .inr ⟨e, gp⟩
            · exact .inl (g.o y h')
          · exact .inr ⟨h'.1, fun p hp => ⟨fun e => g.s _ ((h'.2 p hp).1 e), fun e => g.s _ ((h'.2 p hp).2 e)⟩⟩
        · exact .inl h
theorem lkd_tells (L : List PP) (a b : Int) (hL : L.length ≤ 1000000) : lkdLoop (2 * L.length + 2) L b [a] [a] = some (linkB L a b) := by
  have := outN_le L [a]
  exact lkdLoop_tells L a b (2 * L.length + 1) (by omega) (2 * L.length + 1) [a] [a] (by simp) (by simp only [List.length_cons, List.length_nil]; omega) (Nat.le_refl _) (by simp) (fun y hy => by rw [List.mem_singleton.1 hy]; exact .refl) (fun y hy => hy) (fun y hy => .inl hy)
end Go.Proofs.Ythgjieigpfcekaa.Gr
