/- What is unquoted: the printed functions, on lists of bytes. -/
import Derived.Test.YtnlbmnlmfbihlaaDoorRpBase
namespace Go.Proofs.YtnlbmnlmfbihlaaDoor.Rp
open Go.RowKit Go.Proofs.YtnlbmnlmfbihlaaDoor.QC Go.Proofs.YtnlbmnlmfbihlaaDoorW.PrintWords Go.Proofs.YtnlbmnlmfbihlaaDoorW.PrintLast
theorem bt_list (s : ByteArray) (i : Nat) (c : UInt8) (h : s.data.toList[i]? = some c) : bt s (i : Int) = (c.toNat : Int) ∧ i < s.size := by
  have hi := (List.getElem?_eq_some_iff.1 h).1
  rw [len] at hi
  obtain ⟨d, h1, h2⟩ := bt_nat s i hi
  rw [h] at h1
  cases h1
  exact ⟨h2, hi⟩
theorem hexes (c : UInt8) : strings_IndexByte.f (⟨#[48, 49, 50, 51, 52, 53, 54, 55, 56, 57, 97, 98, 99, 100, 101, 102]⟩ : ByteArray) ((hexd.getD (c.toNat / 16) 0).toNat : Int) = some ((c.toNat / 16 : Nat) : Int) ∧
    strings_IndexByte.f (⟨#[48, 49, 50, 51, 52, 53, 54, 55, 56, 57, 97, 98, 99, 100, 101, 102]⟩ : ByteArray) ((hexd.getD (c.toNat % 16) 0).toNat : Int) = some ((c.toNat % 16 : Nat) : Int) ∧
    (Go.bits .or .i64 (wrap64 (((c.toNat / 16 : Nat) : Int) * 16)) ((c.toNat % 16 : Nat) : Int)) % 256 = (c.toNat : Int) := by
  refine all_bytes (P := fun c => strings_IndexByte.f (⟨#[48, 49, 50, 51, 52, 53, 54, 55, 56, 57, 97, 98, 99, 100, 101, 102]⟩ : ByteArray) ((hexd.getD (c.toNat / 16) 0).toNat : Int) = some ((c.toNat / 16 : Nat) : Int) ∧
    strings_IndexByte.f (⟨#[48, 49, 50, 51, 52, 53, 54, 55, 56, 57, 97, 98, 99, 100, 101, 102]⟩ : ByteArray) ((hexd.getD (c.toNat % 16) 0).toNat : Int) = some ((c.toNat % 16 : Nat) : Int) ∧
    (Go.bits .or .i64 (wrap64 (((c.toNat / 16 : Nat) : Int) * 16)) ((c.toNat % 16 : Nat) : Int)) % 256 = (c.toNat : Int)) ?_ c
  decide +kernel
theorem qb_pos (c : UInt8) : 1 ≤ (qb c).length := by unfold qb; split <;> (try split) <;> (try split) <;> simp
/-- A quoted byte, read: it, and how many bytes told it. -/
theorem one_quoted (c : UInt8) (r : List UInt8) (s : ByteArray) (hs : s.data.toList = qb c ++ r) : Ev (fun k => report_one.f k s) ((c.toNat : Int), ((qb c).length : Int)) := by
  have hsz := len s
  rw [hs] at hsz
  by_cases h1 : c.toNat = 34 ∨ c.toNat = 92
  · have hq : qb c = [92, c] := by unfold qb; rw [if_pos h1]
    rw [hq] at hs hsz ⊢
    simp only [List.cons_append, List.nil_append, List.length_cons] at hsz
    obtain ⟨b0, _⟩ := bt_list s 0 92 (by rw [hs]; rfl)
    obtain ⟨b1, _⟩ := bt_list s 1 c (by rw [hs]; rfl)
    have e0 : bt s 0 = 92 := b0
    have e1 : bt s 1 = (c.toNat : Int) := b1
    have hj : Ev (fun k => report_one.j0 k s true) ((c.toNat : Int), 2) := Ev.step (f := fun _ => some ((c.toNat : Int), 2)) (fun k => by rw [report_one.j0, if_pos rfl, if_pos (by omega), e1]) (Ev.now _)
    have hl : (([92, c] : List UInt8).length : Int) = 2 := rfl
    rw [hl]
    unfold report_one.f
    simp only [if_pos (show 0 < (s.size : Int) by omega), if_pos e0, if_neg (show ¬ (s.size : Int) < 2 by omega), if_pos (show 1 < (s.size : Int) by omega), e1, if_neg (show ¬ (c.toNat : Int) = 110 by omega)]
    by_cases h34 : c.toNat = 34
    · simp only [if_pos (show (c.toNat : Int) = 34 by omega)]; exact hj
    · simp only [if_neg (show ¬ (c.toNat : Int) = 34 by omega), show ((c.toNat : Int) == 92) = true from beq_iff_eq.2 (by omega)]; exact hj
  · by_cases h2 : c.toNat = 10
    · have hq : qb c = [92, 110] := by unfold qb; rw [if_neg h1, if_pos h2]
      rw [hq] at hs hsz ⊢
      simp only [List.cons_append, List.nil_append, List.length_cons] at hsz
      obtain ⟨b0, _⟩ := bt_list s 0 92 (by rw [hs]; rfl)
      obtain ⟨b1, _⟩ := bt_list s 1 110 (by rw [hs]; rfl)
      have e0 : bt s 0 = 92 := b0
      have e1 : bt s 1 = 110 := b1
      have hl : (([92, 110] : List UInt8).length : Int) = 2 := rfl
      rw [hl, h2]
      unfold report_one.f
      simp only [if_pos (show 0 < (s.size : Int) by omega), if_pos e0, if_neg (show ¬ (s.size : Int) < 2 by omega), if_pos (show 1 < (s.size : Int) by omega), if_pos e1]
      exact Ev.now _
    · by_cases h3 : c.toNat < 32 ∨ 126 < c.toNat
      · have hq : qb c = [92, 120, hexd.getD (c.toNat / 16) 0, hexd.getD (c.toNat % 16) 0] := by unfold qb; rw [if_neg h1, if_neg h2, if_pos h3]
        rw [hq] at hs hsz ⊢
        simp only [List.cons_append, List.nil_append, List.length_cons] at hsz
        obtain ⟨b0, _⟩ := bt_list s 0 92 (by rw [hs]; rfl)
        obtain ⟨b1, _⟩ := bt_list s 1 120 (by rw [hs]; rfl)
        obtain ⟨b2, _⟩ := bt_list s 2 _ (by rw [hs]; rfl)
        obtain ⟨b3, _⟩ := bt_list s 3 _ (by rw [hs]; rfl)
        have e0 : bt s 0 = 92 := b0
        have e1 : bt s 1 = 120 := b1
        have e2 : bt s 2 = _ := b2
        have e3 : bt s 3 = _ := b3
        obtain ⟨x1, x2, x3⟩ := hexes c
        obtain ⟨B, hB⟩ : ∃ B, Go.bits .or .i64 (wrap64 (((c.toNat / 16 : Nat) : Int) * 16)) ((c.toNat % 16 : Nat) : Int) = B := ⟨_, rfl⟩
        rw [hB] at x3
        have h2s : (2 : Int) < (s.size : Int) := by clear hB x3; omega
        have h3s : (3 : Int) < (s.size : Int) := by clear hB x3; omega
        have h1s : (1 : Int) < (s.size : Int) := by clear hB x3; omega
        have h4s : (s.size : Int) ≥ 4 := by clear hB x3; omega
        have hl : (([92, 120, hexd.getD (c.toNat / 16) 0, hexd.getD (c.toNat % 16) 0] : List UInt8).length : Int) = 4 := rfl
        rw [hl]
        unfold report_one.f
        simp only [if_pos (show 0 < (s.size : Int) by clear hB x3; omega), if_pos e0, if_neg (show ¬ (s.size : Int) < 2 by clear hB x3; omega), if_pos h1s, e1]
        simp only [if_neg (show ¬ (120 : Int) = 110 by decide), if_neg (show ¬ (120 : Int) = 34 by decide), show ((120 : Int) == 92) = false from rfl]
        refine Ev.step (f := fun k => report_one.j1 k s true) (fun k => ?_) ?_
        · rw [report_one.j0, if_neg (by simp), if_pos h1s, e1, if_pos rfl, decide_eq_true h4s]
        · refine Ev.step (f := fun _ => some ((c.toNat : Int), 4)) (fun k => ?_) (Ev.now _)
          rw [report_one.j1, if_pos rfl, if_pos h2s, e2, e3, x1, x2]
          simp only [Option.bind_some]
          rw [if_pos h3s, if_pos (Int.natCast_nonneg _), if_pos (Int.natCast_nonneg _), hB, x3]
      · have hq : qb c = [c] := by unfold qb; rw [if_neg h1, if_neg h2, if_neg h3]
        rw [hq] at hs hsz ⊢
        simp only [List.cons_append, List.nil_append, List.length_cons] at hsz
        obtain ⟨b0, _⟩ := bt_list s 0 c (by rw [hs]; rfl)
        have e0 : bt s 0 = (c.toNat : Int) := b0
        unfold report_one.f
        simp only [if_pos (show 0 < (s.size : Int) by omega), e0, if_neg (show ¬ (c.toNat : Int) = 92 by omega)]
        exact Ev.now _
theorem unq_flat : ∀ (l acc : List UInt8) (s : ByteArray), s.data.toList = l.flatMap qb → acc.length + l.length ≤ 100000 → Ev (fun k => report_Unquote.l k s acc) (some (acc ++ l)) := by
  intro l
  induction l with
  | nil =>
    intro acc s hs _
    have hz : s.size = 0 := by have := len s; rw [hs] at this; simpa using this.symm
    rw [List.append_nil]
    exact Ev.step (f := fun _ => some (some acc)) (fun k => by rw [report_Unquote.l, if_pos hz]) (Ev.now _)
  | cons c l ih =>
    intro acc s hs hl
    rw [List.flatMap_cons] at hs
    have hsz := len s
    rw [hs, List.length_append] at hsz
    have hp := qb_pos c
    have h4 := qb_len c
    have hc := c.toNat_lt
    rw [List.length_cons] at hl
    have hI := ih (acc ++ [c]) (s.extract (qb c).length s.size) (by
      rw [ByteArray.data_extract, Array.toList_extract, hs]
      rw [List.extract_eq_take_drop, List.drop_left', List.take_of_length_le]
      · omega
      · rfl) (by simp; omega)
    rw [List.append_assoc, List.singleton_append] at hI
    refine Ev.step (f := fun k => (report_one.f k s).bind fun cn => if cn.2 = 0 then some none else
      if 0 ≤ cn.2 ∧ cn.2 ≤ (s.size : Int) ∧ 0 ≤ cn.1 ∧ cn.1 ≤ 255 ∧ acc.length < 1000000 then report_Unquote.l k (s.extract cn.2.toNat s.size) (acc ++ [cn.1.toNat.toUInt8]) else none) (fun k => by rw [report_Unquote.l, if_neg (by omega)]) ?_
    refine Ev.bind (f := fun k (cn : Int × Int) => if cn.2 = 0 then some none else
      if 0 ≤ cn.2 ∧ cn.2 ≤ (s.size : Int) ∧ 0 ≤ cn.1 ∧ cn.1 ≤ 255 ∧ acc.length < 1000000 then report_Unquote.l k (s.extract cn.2.toNat s.size) (acc ++ [cn.1.toNat.toUInt8]) else none) (one_quoted c _ s hs) ?_
    dsimp only
    have ec : c.toNat.toUInt8 = c := by simp
    simp only [if_neg (show ¬ ((qb c).length : Int) = 0 by omega), if_pos (show 0 ≤ ((qb c).length : Int) ∧ ((qb c).length : Int) ≤ (s.size : Int) ∧ 0 ≤ (c.toNat : Int) ∧ (c.toNat : Int) ≤ 255 ∧ acc.length < 1000000 by omega), Int.toNat_natCast, ec]
    exact hI
theorem ev_unique {α : Type} {g : Nat → Option α} {a b : α} (h : Ev g a) (h' : Ev g b) : a = b := by
  obtain ⟨K, h⟩ := h
  obtain ⟨K', h'⟩ := h'
  have h1 := h (K + K') (by omega)
  have h2 := h' (K + K') (by omega)
  rw [h1] at h2
  injection h2
theorem flat_inj (l l' : List UInt8) (h : l.flatMap qb = l'.flatMap qb) (hl : l.length ≤ 10000) (hl' : l'.length ≤ 10000) : l = l' := by
  have h1 := unq_flat l [] ⟨(l.flatMap qb).toArray⟩ rfl (by simp; omega)
  have h2 := unq_flat l' [] ⟨(l.flatMap qb).toArray⟩ h (by simp; omega)
  have := ev_unique h1 h2
  simpa using this
theorem quoteL_len (l : List UInt8) : (quoteL l).length = (l.flatMap qb).length + 2 := by unfold quoteL; simp
theorem quoteL_inj (l l' : List UInt8) (h : quoteL l = quoteL l') (hl : l.length ≤ 10000) (hl' : l'.length ≤ 10000) : l = l' := by
  unfold quoteL at h
  simp only [List.cons_append, List.cons.injEq, true_and] at h
  exact flat_inj l l' (List.append_cancel_right h) hl hl'
/-- What is quoted, unquoted. -/
theorem unquote_quote (s : ByteArray) (hs : s.size ≤ 1000) : Ev (fun k => report_Unquote.f k ⟨(quoteL s.data.toList).toArray⟩) (s, true) := by
  have hl := len s
  have hq := quoteL_len s.data.toList
  have hf := flat_len s.data.toList
  have e0 : bt (⟨(quoteL s.data.toList).toArray⟩ : ByteArray) 0 = 34 := (bt_list ⟨(quoteL s.data.toList).toArray⟩ 0 34 rfl).1
  have hz : (⟨(quoteL s.data.toList).toArray⟩ : ByteArray).size = (quoteL s.data.toList).length := rfl
  have e1 : bt (⟨(quoteL s.data.toList).toArray⟩ : ByteArray) (((⟨(quoteL s.data.toList).toArray⟩ : ByteArray).size : Int) - 1) = 34 := by
    have h := (bt_list ⟨(quoteL s.data.toList).toArray⟩ ((s.data.toList.flatMap qb).length + 1) 34 (by
      show (quoteL s.data.toList)[_]? = _
      unfold quoteL
      rw [List.cons_append, List.getElem?_cons_succ, List.getElem?_append_right (Nat.le_refl _)]
      simp)).1
    rw [hz, hq]
    rw [show ((((s.data.toList.flatMap qb).length + 2 : Nat) : Int) - 1) = (((s.data.toList.flatMap qb).length + 1 : Nat) : Int) by omega]
    exact h
  unfold report_Unquote.f
  simp only [if_neg (show ¬ (((⟨(quoteL s.data.toList).toArray⟩ : ByteArray).size : Int) < 2 ∨ bt (⟨(quoteL s.data.toList).toArray⟩ : ByteArray) 0 ≠ 34 ∨ bt (⟨(quoteL s.data.toList).toArray⟩ : ByteArray) (((⟨(quoteL s.data.toList).toArray⟩ : ByteArray).size : Int) - 1) ≠ 34 ∨ 1000000 < (⟨(quoteL s.data.toList).toArray⟩ : ByteArray).size) by
    rw [e0, e1, hz, hq]; omega)]
  have hx := unq_flat s.data.toList [] ((⟨(quoteL s.data.toList).toArray⟩ : ByteArray).extract 1 ((⟨(quoteL s.data.toList).toArray⟩ : ByteArray).size - 1)) (by
    rw [ByteArray.data_extract, Array.toList_extract, hz, hq]
    show List.extract (quoteL s.data.toList) 1 _ = _
    rw [List.extract_eq_take_drop]
    unfold quoteL
    rw [List.cons_append, List.drop_succ_cons, List.drop_zero, List.take_left' (by omega)]) (by simp; omega)
  refine Ev.bind (f := fun _ (o : Option (List UInt8)) => (match o with
    | none => some ((⟨#[]⟩ : ByteArray), false)
    | some acc => (report_Quote.f ⟨acc.toArray⟩).bind fun q => if q.toList == (⟨(quoteL s.data.toList).toArray⟩ : ByteArray).toList then some ((⟨acc.toArray⟩ : ByteArray), true) else some ((⟨#[]⟩ : ByteArray), false) : Option (ByteArray × Bool))) hx ?_
  rw [List.nil_append]
  have es : (⟨s.data.toList.toArray⟩ : ByteArray) = s := bytes_ext rfl
  simp only [es]
  unfold report_Quote.f
  simp only [if_pos (show s.size ≤ 1000000 by omega), Option.bind_some, beq_self_eq_true, if_true]
  exact Ev.now _
/-- What a text is, unquoted: something is told; what is told true is quoted the text. -/
theorem one_total (s : ByteArray) (h : 0 < s.size) : ∃ c n : Int, Ev (fun k => report_one.f k s) (c, n) ∧ (n = 0 ∨ 1 ≤ n ∧ n ≤ (s.size : Int) ∧ 0 ≤ c ∧ c ≤ 255) := by
  have r0 := bt_range s 0
  have r1 := bt_range s 1
  unfold report_one.f
  simp only [if_pos (show 0 < (s.size : Int) by omega)]
  by_cases h0 : bt s 0 = 92
  · simp only [if_pos h0]
    by_cases h2 : (s.size : Int) < 2
    · simp only [if_pos h2]; exact ⟨_, _, Ev.now _, .inl rfl⟩
    · simp only [if_neg h2, if_pos (show 1 < (s.size : Int) by omega)]
      by_cases h3 : bt s 1 = 110
      · simp only [if_pos h3]; exact ⟨_, _, Ev.now _, .inr (by omega)⟩
      · simp only [if_neg h3]
        have hj : Ev (fun k => report_one.j0 k s true) (bt s 1, 2) := Ev.step (f := fun _ => some (bt s 1, 2)) (fun k => by rw [report_one.j0, if_pos rfl, if_pos (by omega)]) (Ev.now _)
        have hf : Ev (fun k => report_one.j1 k s false) (0, 0) := Ev.step (f := fun _ => some (0, 0)) (fun k => by rw [report_one.j1, if_neg (by simp)]) (Ev.now _)
        by_cases h4 : bt s 1 = 34
        · simp only [if_pos h4]; exact ⟨_, _, hj, .inr (by omega)⟩
        · simp only [if_neg h4]
          cases h5 : (bt s 1 == 92) with
          | true => exact ⟨_, _, hj, .inr (by omega)⟩
          | false =>
            by_cases h6 : bt s 1 = 120
            · by_cases h7 : (s.size : Int) ≥ 4
              · generalize hA : (⟨#[48, 49, 50, 51, 52, 53, 54, 55, 56, 57, 97, 98, 99, 100, 101, 102]⟩ : ByteArray) = A
                obtain ⟨x, hx⟩ : ∃ x, strings_IndexByte.f A (bt s 2) = some x := ⟨_, rfl⟩
                obtain ⟨y, hy⟩ : ∃ y, strings_IndexByte.f A (bt s 3) = some y := ⟨_, rfl⟩
                have hg : ∀ k, report_one.j1 (k + 1) s true = if x ≥ 0 then (if y ≥ 0 then (some ((Go.bits .or .i64 (wrap64 (x * 16)) y) % 256, 4)) else (some (0, 0))) else (some (0, 0)) := fun k => by
                  rw [report_one.j1, if_pos rfl, if_pos (by omega), hA, hx, hy]
                  simp only [Option.bind_some]
                  rw [if_pos (by omega)]
                have ho : ∀ k, report_one.j0 (k + 1) s false = report_one.j1 k s true := fun k => by
                  rw [report_one.j0, if_neg (by simp), if_pos (by omega), if_pos h6, decide_eq_true h7]
                by_cases hx0 : x ≥ 0
                · by_cases hy0 : y ≥ 0
                  · refine ⟨_, _, Ev.step ho (Ev.step (f := fun _ => some ((Go.bits .or .i64 (wrap64 (x * 16)) y) % 256, 4)) (fun k => by rw [hg, if_pos hx0, if_pos hy0]) (Ev.now _)), .inr ?_⟩
                    have := Int.emod_nonneg (Go.bits .or .i64 (wrap64 (x * 16)) y) (show (256 : Int) ≠ 0 by decide)
                    have := Int.emod_lt_of_pos (Go.bits .or .i64 (wrap64 (x * 16)) y) (show (0 : Int) < 256 by decide)
                    omega
                  · exact ⟨_, _, Ev.step ho (Ev.step (f := fun _ => some (0, 0)) (fun k => by rw [hg, if_pos hx0, if_neg hy0]) (Ev.now _)), .inl rfl⟩
                · exact ⟨_, _, Ev.step ho (Ev.step (f := fun _ => some (0, 0)) (fun k => by rw [hg, if_neg hx0]) (Ev.now _)), .inl rfl⟩
              · exact ⟨_, _, Ev.step (f := fun k => report_one.j1 k s false) (fun k => by rw [report_one.j0, if_neg (by simp), if_pos (by omega), if_pos h6, decide_eq_false h7]) hf, .inl rfl⟩
            · exact ⟨_, _, Ev.step (f := fun k => report_one.j1 k s false) (fun k => by rw [report_one.j0, if_neg (by simp), if_pos (by omega), if_neg h6]) hf, .inl rfl⟩
  · simp only [if_neg h0]
    exact ⟨_, _, Ev.now _, .inr (by omega)⟩
theorem unq_total : ∀ (d : Nat) (s : ByteArray) (acc : List UInt8), s.size = d → acc.length + d ≤ 100000 → ∃ o, Ev (fun k => report_Unquote.l k s acc) o ∧ ∀ l, o = some l → l.length ≤ acc.length + d := by
  intro d
  induction d using Nat.strongRecOn with
  | _ d ih =>
    intro s acc hd ha
    by_cases hz : s.size = 0
    · exact ⟨some acc, Ev.step (f := fun _ => some (some acc)) (fun k => by rw [report_Unquote.l, if_pos hz]) (Ev.now _), fun l h => by cases h; omega⟩
    · obtain ⟨c, n, h1, h2⟩ := one_total s (by omega)
      have hs : ∀ k, report_Unquote.l (k + 1) s acc = (report_one.f k s).bind fun cn => if cn.2 = 0 then some none else
        if 0 ≤ cn.2 ∧ cn.2 ≤ (s.size : Int) ∧ 0 ≤ cn.1 ∧ cn.1 ≤ 255 ∧ acc.length < 1000000 then report_Unquote.l k (s.extract cn.2.toNat s.size) (acc ++ [cn.1.toNat.toUInt8]) else none := fun k => by rw [report_Unquote.l, if_neg hz]
      have hb : ∀ o, Ev (fun k => if n = 0 then some none else if 0 ≤ n ∧ n ≤ (s.size : Int) ∧ 0 ≤ c ∧ c ≤ 255 ∧ acc.length < 1000000 then report_Unquote.l k (s.extract n.toNat s.size) (acc ++ [c.toNat.toUInt8]) else none) o → Ev (fun k => report_Unquote.l k s acc) o := fun o ho =>
        Ev.step hs (Ev.bind (f := fun k (cn : Int × Int) => if cn.2 = 0 then some none else
          if 0 ≤ cn.2 ∧ cn.2 ≤ (s.size : Int) ∧ 0 ≤ cn.1 ∧ cn.1 ≤ 255 ∧ acc.length < 1000000 then report_Unquote.l k (s.extract cn.2.toNat s.size) (acc ++ [cn.1.toNat.toUInt8]) else none) h1 ho)
      rcases h2 with h2 | ⟨h2, h3, h4, h5⟩
      · refine ⟨none, hb _ ?_, fun l h => by cases h⟩
        simp only [if_pos h2]
        exact Ev.now _
      · obtain ⟨o, ho, hl⟩ := ih (s.size - n.toNat) (by omega) (s.extract n.toNat s.size) (acc ++ [c.toNat.toUInt8]) (by rw [ByteArray.size_extract]; omega) (by simp; omega)
        refine ⟨o, hb _ ?_, fun l h => by have := hl l h; simp at this; omega⟩
        simp only [if_neg (show ¬ n = 0 by omega), if_pos (show 0 ≤ n ∧ n ≤ (s.size : Int) ∧ 0 ≤ c ∧ c ≤ 255 ∧ acc.length < 1000000 by omega)]
        exact ho
theorem unquote_total (s : ByteArray) (hs : s.size ≤ 1000) : Ev (fun k => report_Unquote.f k s) (⟨#[]⟩, false) ∨ ∃ t : ByteArray, t.size ≤ 1000 ∧ Ev (fun k => report_Unquote.f k s) (t, true) ∧ (quoteL t.data.toList) = s.data.toList := by
  unfold report_Unquote.f
  by_cases hc : (s.size : Int) < 2 ∨ bt s 0 ≠ 34 ∨ bt s ((s.size : Int) - 1) ≠ 34 ∨ 1000000 < s.size
  · simp only [if_pos hc, if_neg (show ¬ 1000000 < s.size by omega)]
    exact .inl (Ev.now _)
  · simp only [if_neg hc]
    obtain ⟨o, ho, hl⟩ := unq_total (s.size - 1 - 1) (s.extract 1 (s.size - 1)) [] (by rw [ByteArray.size_extract]; omega) (by simp; omega)
    have hb : ∀ r, Ev (fun _ => (match o with
      | none => some ((⟨#[]⟩ : ByteArray), false)
      | some acc => (report_Quote.f ⟨acc.toArray⟩).bind fun q => if q.toList == s.toList then some ((⟨acc.toArray⟩ : ByteArray), true) else some ((⟨#[]⟩ : ByteArray), false) : Option (ByteArray × Bool))) r → Ev _ r := fun r hr => Ev.bind (f := fun _ (o : Option (List UInt8)) => (match o with
      | none => some ((⟨#[]⟩ : ByteArray), false)
      | some acc => (report_Quote.f ⟨acc.toArray⟩).bind fun q => if q.toList == s.toList then some ((⟨acc.toArray⟩ : ByteArray), true) else some ((⟨#[]⟩ : ByteArray), false) : Option (ByteArray × Bool))) ho hr
    cases o with
    | none => exact .inl (hb _ (Ev.now _))
    | some acc =>
      have ha := hl acc rfl
      simp only [List.length_nil, Nat.zero_add] at ha
      have hq : report_Quote.f ⟨acc.toArray⟩ = some ⟨(quoteL acc).toArray⟩ := by
        unfold report_Quote.f
        rw [if_pos (show (⟨acc.toArray⟩ : ByteArray).size ≤ 1000000 by show acc.length ≤ 1000000; omega)]
      by_cases he : ((⟨(quoteL acc).toArray⟩ : ByteArray).toList == s.toList) = true
      · refine .inr ⟨⟨acc.toArray⟩, (by show acc.length ≤ 1000; omega), hb _ ?_, ?_⟩
        · dsimp only
          rw [hq]
          simp only [Option.bind_some]
          rw [if_pos he]
          exact Ev.now _
        · rw [beq_iff_eq, ByteArray.toList_eq, ByteArray.toList_eq] at he
          exact he
      · refine .inl (hb _ ?_)
        dsimp only
        rw [hq]
        simp only [Option.bind_some]
        rw [if_neg he]
        exact Ev.now _
end Go.Proofs.YtnlbmnlmfbihlaaDoor.Rp
