/- The printed functions of package lex come to the plain wordsT of LxSpec. -/
import Derived.Test.YtfccifekaokibaaGreatDoorLxName
import Derived.Test.YtfccifekaokibaaGreatDoorQTx7
namespace Go.Proofs.YtfccifekaokibaaGreatDoor.Lx
open Go.RowKit Go.Proofs.YtfccifekaokibaaGreatDoor.QT Go.Proofs.YtfccifekaokibaaGreatDoorW.PrintWords Go.Proofs.YtfccifekaokibaaGreatDoorW.PrintLast Oriel.Lx
theorem blank_f (c : UInt8) : lex_blank.f (c.toNat : Int) = some (isBlank c) := by
  refine all_bytes (P := fun c => lex_blank.f (c.toNat : Int) = some (isBlank c)) ?_ c
  decide +kernel
theorem digit_f (c : UInt8) : lex_digit.f (c.toNat : Int) = some (isDigit c) := by
  refine all_bytes (P := fun c => lex_digit.f (c.toNat : Int) = some (isDigit c)) ?_ c
  decide +kernel
theorem line_f (c : UInt8) : lex_cursor_line_1.f (c.toNat : Int) = some (c != 10) := by
  refine all_bytes (P := fun c => lex_cursor_line_1.f (c.toNat : Int) = some (c != 10)) ?_ c
  decide +kernel
theorem str1 (a c : UInt8) : ((⟨#[a]⟩ : ByteArray) ++ strOfNums [(c.toNat : Int)]).data.toList = [a, c] := by
  have h : (strOfNums [(c.toNat : Int)]).data = #[c] := by
    apply Array.toList_inj.1
    rw [strOfNums_data]
    simp
  rw [ByteArray.data_append, h]
  rfl
theorem lsign_ev (c : UInt8) : Ev (fun k => lex_sign.f k (c.toNat : Int)) (isSign c) := by
  have h := kind_ev ((⟨#[43]⟩ : ByteArray) ++ strOfNums [(c.toNat : Int)]) (by rw [← len, str1]; simp)
  rw [str1] at h
  have e : (kindT [43, c] == 9) = isSign c := by
    refine all_bytes (P := fun c => (kindT [43, c] == 9) = isSign c) ?_ c
    decide +kernel
  rw [← e]
  refine Ev.congr (f := fun k => (name_Kind.f k ((⟨#[43]⟩ : ByteArray) ++ strOfNums [(c.toNat : Int)])).bind fun t => some (t == 9)) (fun k => ?_) (Ev.bind (f := fun _ (t : Int) => some (t == 9)) h (Ev.now _))
  unfold lex_sign.f
  simp only [Option.bind_some]
  rw [if_pos (by rw [strOfNums_size]; simp)]
theorem lrest_ev (c : UInt8) : Ev (fun k => lex_rest.f k (c.toNat : Int)) (isRest c) := by
  have h := kind_ev ((⟨#[97]⟩ : ByteArray) ++ strOfNums [(c.toNat : Int)]) (by rw [← len, str1]; simp)
  rw [str1] at h
  have e : (kindT [97, c] != 0) = isRest c := by
    refine all_bytes (P := fun c => (kindT [97, c] != 0) = isRest c) ?_ c
    decide +kernel
  rw [← e]
  refine Ev.congr (f := fun k => (name_Kind.f k ((⟨#[97]⟩ : ByteArray) ++ strOfNums [(c.toNat : Int)])).bind fun t => some (t != 0)) (fun k => ?_) (Ev.bind (f := fun _ (t : Int) => some (t != 0)) h (Ev.now _))
  unfold lex_rest.f
  simp only [Option.bind_some]
  rw [if_pos (by rw [strOfNums_size]; simp)]
theorem run_ev (p : Nat → Int → Option Bool) (L : Nat → Int → ByteArray → Int → Option (Int × ByteArray × Int))
    (hL : ∀ k x s a, L (k + 1) x s a = if x < (s.size : Int) then (if 0 ≤ x then (p k (bt s x)).bind fun t => (if t = true then L k (wrap64 (x + 1)) s a else some (x, s, a)) else none) else some (x, s, a))
    (q : UInt8 → Bool) (hq : ∀ c : UInt8, Ev (fun k => p k (c.toNat : Int)) (q c)) (s : ByteArray) (hs : s.size ≤ 140737488351232) (a : Int) :
    ∀ (d n : Nat), s.size - n = d → n ≤ s.size → Ev (fun k => L k (n : Int) s a) (((n + runLen q (s.data.toList.drop n) : Nat) : Int), s, a) := by
  intro d
  induction d with
  | zero =>
    intro n hd hn
    refine Ev.step (f := fun _ => some ((n : Int), s, a)) (fun k => by rw [hL, if_neg (by omega)]) ?_
    rw [List.drop_of_length_le (by rw [len]; omega)]
    exact Ev.now _
  | succ d ih =>
    intro n hd hn
    obtain ⟨c, h1, h2⟩ := bt_nat s n (by omega)
    rw [drop_cons h1]
    refine Ev.step (f := fun k => (p k (c.toNat : Int)).bind fun t => (if t = true then L k ((n + 1 : Nat) : Int) s a else some ((n : Int), s, a))) (fun k => by rw [hL, if_pos (by omega), if_pos (by omega), h2, wrap_nat n (by omega)]) ?_
    refine Ev.bind (f := fun k (t : Bool) => (if t = true then L k ((n + 1 : Nat) : Int) s a else some ((n : Int), s, a))) (hq c) ?_
    unfold runLen
    rw [List.takeWhile_cons]
    cases hc : q c with
    | true =>
      have := ih (n + 1) (by omega) (by omega)
      unfold runLen at this
      simp only [if_true, List.length_cons]
      rw [show n + ((List.takeWhile q (s.data.toList.drop (n + 1))).length + 1) = n + 1 + (List.takeWhile q (s.data.toList.drop (n + 1))).length by omega]
      exact this
    | false => simpa using Ev.now (((n : Nat) : Int), s, a)
theorem rblank_ev (s : ByteArray) (hs : s.size ≤ 140737488351232) (a : Int) (n : Nat) (hn : n ≤ s.size) : Ev (fun k => lex_cursor_run__lex_blank.f k s a (n : Int)) (((n + runLen isBlank (s.data.toList.drop n) : Nat) : Int), s, a) :=
  run_ev (fun _ b => lex_blank.f b) lex_cursor_run__lex_blank.l0 (fun k x s a => by rw [lex_cursor_run__lex_blank.l0]) isBlank (fun c => Ev.congr (fun _ => blank_f c) (Ev.now _)) s hs a _ n rfl hn
theorem rdigit_ev (s : ByteArray) (hs : s.size ≤ 140737488351232) (a : Int) (n : Nat) (hn : n ≤ s.size) : Ev (fun k => lex_cursor_run__lex_digit.f k s a (n : Int)) (((n + runLen isDigit (s.data.toList.drop n) : Nat) : Int), s, a) :=
  run_ev (fun _ b => lex_digit.f b) lex_cursor_run__lex_digit.l0 (fun k x s a => by rw [lex_cursor_run__lex_digit.l0]) isDigit (fun c => Ev.congr (fun _ => digit_f c) (Ev.now _)) s hs a _ n rfl hn
theorem rrest_ev (s : ByteArray) (hs : s.size ≤ 140737488351232) (a : Int) (n : Nat) (hn : n ≤ s.size) : Ev (fun k => lex_cursor_run__lex_rest.f k s a (n : Int)) (((n + runLen isRest (s.data.toList.drop n) : Nat) : Int), s, a) :=
  run_ev lex_rest.f lex_cursor_run__lex_rest.l0 (fun k x s a => by rw [lex_cursor_run__lex_rest.l0]) isRest lrest_ev s hs a _ n rfl hn
theorem rsign_ev (s : ByteArray) (hs : s.size ≤ 140737488351232) (a : Int) (n : Nat) (hn : n ≤ s.size) : Ev (fun k => lex_cursor_run__lex_sign.f k s a (n : Int)) (((n + runLen isSign (s.data.toList.drop n) : Nat) : Int), s, a) :=
  run_ev lex_sign.f lex_cursor_run__lex_sign.l0 (fun k x s a => by rw [lex_cursor_run__lex_sign.l0]) isSign lsign_ev s hs a _ n rfl hn
theorem rline_ev (s : ByteArray) (hs : s.size ≤ 140737488351232) (a : Int) (n : Nat) (hn : n ≤ s.size) : Ev (fun k => lex_cursor_run__lex_cursor_line_1.f k s a (n : Int)) (((n + runLen (fun c => c != 10) (s.data.toList.drop n) : Nat) : Int), s, a) :=
  run_ev (fun _ b => lex_cursor_line_1.f b) lex_cursor_run__lex_cursor_line_1.l0 (fun k x s a => by rw [lex_cursor_run__lex_cursor_line_1.l0]) (fun c => c != 10) (fun c => Ev.congr (fun _ => line_f c) (Ev.now _)) s hs a _ n rfl hn
theorem line_ev (s : ByteArray) (hs : s.size ≤ 140737488351232) (n : Nat) (hn : n ≤ s.size) : Ev (fun k => lex_cursor_line.f k s (n : Int)) (((n + runLen (fun c => c != 10) (s.data.toList.drop n) : Nat) : Int), s, (n : Int)) := by
  unfold lex_cursor_line.f
  exact Ev.bind (f := fun _ (x : Int × ByteArray × Int) => some (x.1, x.2.1, x.2.2)) (rline_ev s hs n n hn) (Ev.now _)
theorem prefix_f (x : ByteArray) (p : ByteArray) : strings_HasPrefix.f x p = some (x.data.toList.take p.data.toList.length == p.data.toList) := by
  unfold strings_HasPrefix.f stringslite_HasPrefix.f
  have hx := len x
  have hp := len p
  by_cases h : (x.size : Int) ≥ (p.size : Int)
  · rw [if_pos h, if_pos (by omega), if_pos (by omega)]
    simp only [Option.bind_some, Int.toNat_natCast]
    rw [ByteArray.toList_eq, ByteArray.toList_eq, Lib.extract_data, List.drop_zero, Nat.sub_zero, hp]
  · rw [if_neg h]
    simp only [Option.bind_some]
    congr 1
    symm
    rw [beq_eq_false_iff_ne]
    intro e
    have := congrArg List.length e
    rw [List.length_take] at this
    omega
theorem drop_ext (s : ByteArray) (n : Nat) : (s.extract n s.size).data.toList = s.data.toList.drop n := by
  rw [Lib.extract_data, List.take_of_length_le]
  rw [List.length_drop, len]
  omega
theorem note_ev (s : ByteArray) (hs : s.size ≤ 140737488351232) : ∀ (e n d : Nat), s.size - n = e → n ≤ s.size → d + (s.size - n) ≤ 140737488351232 →
    Ev (fun k => lex_cursor_note.l k s (d : Int) (n : Int)) (match noteN (s.data.toList.drop n) d with | none => -1 | some m => ((n + m : Nat) : Int)) := by
  intro e
  induction e using Nat.strongRecOn with
  | _ e ih =>
    intro n d he hn hd
    by_cases hlt : n < s.size
    · have wr2 : wrap64 ((n : Int) + 2) = ((n + 2 : Nat) : Int) := by unfold wrap64; omega
      have wd : wrap64 ((d : Int) + 1) = ((d + 1 : Nat) : Int) := by unfold wrap64; omega
      have base : ∀ k, lex_cursor_note.l (k + 1) s (d : Int) (n : Int) = if ((s.data.toList.drop n).take 2 == [40, 42]) = true then lex_cursor_note.l k s ((d + 1 : Nat) : Int) ((n + 2 : Nat) : Int)
          else if ((s.data.toList.drop n).take 2 == [42, 41]) = true then (if wrap64 ((d : Int) - 1) > 0 then lex_cursor_note.l k s (wrap64 ((d : Int) - 1)) ((n + 2 : Nat) : Int) else some ((n + 2 : Nat) : Int))
          else (if (d : Int) > 0 then lex_cursor_note.l k s (d : Int) ((n + 1 : Nat) : Int) else some ((n + 1 : Nat) : Int)) := by
        intro k
        rw [lex_cursor_note.l, if_neg (by omega), if_pos (by omega), Int.toNat_natCast, prefix_f, prefix_f, drop_ext, wr2, wd, wrap_nat n (by omega)]
        simp only [Option.bind_some]
        rw [if_pos (show ((d + 1 : Nat) : Int) > 0 by omega)]
        rfl
      obtain ⟨c, h1, _⟩ := bt_nat s n hlt
      have hdr := drop_cons h1
      have two : ∀ c2 r, s.data.toList.drop (n + 1) = c2 :: r → s.data.toList.drop (n + 2) = r ∧ n + 2 ≤ s.size := by
        intro c2 r hr
        constructor
        · rw [show n + 2 = (n + 1) + 1 by omega, ← List.drop_drop, hr]; rfl
        · have := congrArg List.length hr
          rw [List.length_drop, len] at this
          simp at this
          omega
      rw [hdr] at base ⊢
      by_cases ho : c = 40 ∧ ∃ r, s.data.toList.drop (n + 1) = 42 :: r
      · obtain ⟨rfl, r, hr⟩ := ho
        obtain ⟨hr2, hn2⟩ := two _ _ hr
        rw [hr] at base ⊢
        refine Ev.step (f := fun k => lex_cursor_note.l k s ((d + 1 : Nat) : Int) ((n + 2 : Nat) : Int)) (fun k => by rw [base]; simp) ?_
        have := ih (s.size - (n + 2)) (by omega) (n + 2) (d + 1) rfl hn2 (by omega)
        rw [hr2] at this
        simp only [noteN]
        cases hN : noteN r (d + 1) with
        | none => rw [hN] at this; simpa using this
        | some m => rw [hN] at this; simp only [Option.map_some]; rw [show n + (m + 2) = n + 2 + m by omega]; exact this
      · by_cases hc : c = 42 ∧ ∃ r, s.data.toList.drop (n + 1) = 41 :: r
        · obtain ⟨rfl, r, hr⟩ := hc
          obtain ⟨hr2, hn2⟩ := two _ _ hr
          rw [hr] at base ⊢
          simp only [noteN]
          by_cases h1d : 1 < d
          · have wm : wrap64 ((d : Int) - 1) = ((d - 1 : Nat) : Int) := by unfold wrap64; omega
            refine Ev.step (f := fun k => lex_cursor_note.l k s ((d - 1 : Nat) : Int) ((n + 2 : Nat) : Int)) (fun k => by rw [base, wm, if_neg (by simp), if_pos (by simp), if_pos (by omega)]) ?_
            have := ih (s.size - (n + 2)) (by omega) (n + 2) (d - 1) rfl hn2 (by omega)
            rw [hr2] at this
            rw [if_pos h1d]
            cases hN : noteN r (d - 1) with
            | none => rw [hN] at this; simpa using this
            | some m => rw [hN] at this; simp only [Option.map_some]; rw [show n + (m + 2) = n + 2 + m by omega]; exact this
          · refine Ev.step (f := fun k => some ((n + 2 : Nat) : Int)) (fun k => by rw [base, if_neg (by simp), if_pos (by simp), if_neg (by unfold wrap64; omega)]) ?_
            rw [if_neg h1d]
            exact Ev.now _
        · have hN : noteN (c :: s.data.toList.drop (n + 1)) d = if 0 < d then (noteN (s.data.toList.drop (n + 1)) d).map (· + 1) else some 1 := by
            rw [noteN]
            · intro r h1 h2; exact ho ⟨h1, r, h2⟩
            · intro r h1 h2; exact hc ⟨h1, r, h2⟩
          have hb1 : ((c :: s.data.toList.drop (n + 1)).take 2 == [40, 42]) = false := by
            rw [beq_eq_false_iff_ne]
            intro h
            rcases hq : s.data.toList.drop (n + 1) with _ | ⟨c2, r⟩
            · rw [hq] at h; simp at h
            · rw [hq] at h; simp at h; exact ho ⟨h.1, r, by rw [hq, h.2]⟩
          have hb2 : ((c :: s.data.toList.drop (n + 1)).take 2 == [42, 41]) = false := by
            rw [beq_eq_false_iff_ne]
            intro h
            rcases hq : s.data.toList.drop (n + 1) with _ | ⟨c2, r⟩
            · rw [hq] at h; simp at h
            · rw [hq] at h; simp at h; exact hc ⟨h.1, r, by rw [hq, h.2]⟩
          rw [hN]
          by_cases h0 : 0 < d
          · refine Ev.step (f := fun k => lex_cursor_note.l k s (d : Int) ((n + 1 : Nat) : Int)) (fun k => by rw [base, hb1, hb2, if_neg (by simp), if_neg (by simp), if_pos (by omega)]) ?_
            have := ih (s.size - (n + 1)) (by omega) (n + 1) d rfl (by omega) (by omega)
            rw [if_pos h0]
            cases hM : noteN (s.data.toList.drop (n + 1)) d with
            | none => rw [hM] at this; simpa using this
            | some m => rw [hM] at this; simp only [Option.map_some]; rw [show n + (m + 1) = n + 1 + m by omega]; exact this
          · refine Ev.step (f := fun k => some ((n + 1 : Nat) : Int)) (fun k => by rw [base, hb1, hb2, if_neg (by simp), if_neg (by simp), if_neg (by omega)]) ?_
            rw [if_neg h0]
            exact Ev.now _
    · refine Ev.step (f := fun k => some (-1)) (fun k => by rw [lex_cursor_note.l, if_pos (by omega)]) ?_
      rw [List.drop_of_length_le (by rw [len]; omega)]
      simpa [noteN] using Ev.now (-1 : Int)
theorem four (c : UInt8) : strings_Contains.f (⟨#[34, 92, 110, 116]⟩ : ByteArray) ⟨#[c]⟩ = some (decide (c = 34 ∨ c = 92 ∨ c = 110 ∨ c = 116)) := by
  refine congrArg some ?_
  refine all_bytes (P := fun c => decide (0 ≤ Lib.indexByte (⟨#[34, 92, 110, 116]⟩ : ByteArray).data.toList c) = decide (c = 34 ∨ c = 92 ∨ c = 110 ∨ c = 116)) ?_ c
  decide +kernel
theorem ext_one (s : ByteArray) (n : Nat) (c : UInt8) (h : s.data.toList[n]? = some c) : s.extract n (n + 1) = ⟨#[c]⟩ := by
  apply ByteArray.ext
  apply Array.toList_inj.1
  rw [Lib.extract_data, drop_cons h, show n + 1 - n = 1 by omega]
  rfl
theorem text_ev (s : ByteArray) (hs : s.size ≤ 140737488351232) (a : Int) : ∀ (e n : Nat), s.size - n = e → n ≤ s.size →
    Ev (fun k => lex_cursor_text.l0 k (n : Int) s a) ((match textN (s.data.toList.drop n) with | none => -1 | some m => ((n + m : Nat) : Int)), s, a) := by
  intro e
  induction e using Nat.strongRecOn with
  | _ e ih =>
    intro n he hn
    by_cases hlt : n < s.size
    · obtain ⟨c, h1, h2⟩ := bt_nat s n hlt
      have hdr := drop_cons h1
      have w1 := wrap_nat n (by omega)
      have w2 := wrap_nat (n + 1) (by omega)
      have base : ∀ k, lex_cursor_text.l0 (k + 1) (n : Int) s a = if c = 34 then some (((n + 1 : Nat) : Int), s, a) else if c = 10 then some (-1, s, a) else if c = 92 then
          (if ((n + 1 : Nat) : Int) ≥ (s.size : Int) then some (-1, s, a) else (strings_Contains.f (⟨#[34, 92, 110, 116]⟩ : ByteArray) (s.extract (n + 1) (n + 1 + 1))).bind fun t => (if t = true then lex_cursor_text.l0 k ((n + 1 + 1 : Nat) : Int) s a else some (-1, s, a)))
          else lex_cursor_text.l0 k ((n + 1 : Nat) : Int) s a := by
        intro k
        rw [lex_cursor_text.l0, if_pos (by omega), if_pos (by omega), h2, w1, w2]
        have e34 : ((c.toNat : Int) = 34) ↔ c = 34 := eqb c 34 (by omega)
        have e10 : ((c.toNat : Int) = 10) ↔ c = 10 := eqb c 10 (by omega)
        have e92 : ((c.toNat : Int) = 92) ↔ c = 92 := eqb c 92 (by omega)
        by_cases q1 : c = 34
        · rw [if_pos q1, if_pos (e34.2 q1)]
        · rw [if_neg q1, if_neg (fun h => q1 (e34.1 h))]
          by_cases q2 : c = 10
          · rw [if_pos q2, if_pos (e10.2 q2)]
          · rw [if_neg q2, if_neg (fun h => q2 (e10.1 h))]
            by_cases q3 : c = 92
            · rw [if_pos q3, if_pos (e92.2 q3)]
              by_cases q4 : ((n + 1 : Nat) : Int) ≥ (s.size : Int)
              · rw [if_pos q4, if_pos q4]
              · rw [if_neg q4, if_neg q4, if_pos (by omega), if_pos (by omega), if_pos (by omega), Int.toNat_natCast, Int.toNat_natCast]
            · rw [if_neg q3, if_neg (fun h => q3 (e92.1 h))]
      rw [hdr]
      unfold textN
      by_cases q1 : c = 34
      · rw [if_pos q1]
        exact Ev.step (f := fun _ => some (((n + 1 : Nat) : Int), s, a)) (fun k => by rw [base, if_pos q1]) (Ev.now _)
      rw [if_neg q1]
      by_cases q2 : c = 10
      · rw [if_pos q2]
        exact Ev.step (f := fun _ => some (-1, s, a)) (fun k => by rw [base, if_neg q1, if_pos q2]) (Ev.now _)
      rw [if_neg q2]
      by_cases q3 : c = 92
      · rw [if_pos q3]
        by_cases q4 : n + 1 < s.size
        · obtain ⟨c2, g1, g2⟩ := bt_nat s (n + 1) q4
          rw [drop_cons g1]
          have ex := ext_one s (n + 1) c2 g1
          dsimp only
          by_cases q5 : c2 = 34 ∨ c2 = 92 ∨ c2 = 110 ∨ c2 = 116
          · rw [if_pos q5]
            refine Ev.step (f := fun k => lex_cursor_text.l0 k ((n + 1 + 1 : Nat) : Int) s a) (fun k => by rw [base, if_neg q1, if_neg q2, if_pos q3, if_neg (by omega), ex, four, decide_eq_true q5]; simp) ?_
            have := ih (s.size - (n + 1 + 1)) (by omega) (n + 1 + 1) rfl (by omega)
            cases hM : textN (s.data.toList.drop (n + 1 + 1)) with
            | none => rw [hM] at this; simpa using this
            | some m => rw [hM] at this; simp only [Option.map_some]; rw [show n + (m + 2) = n + 1 + 1 + m by omega]; exact this
          · rw [if_neg q5]
            exact Ev.step (f := fun _ => some (-1, s, a)) (fun k => by rw [base, if_neg q1, if_neg q2, if_pos q3, if_neg (by omega), ex, four, decide_eq_false q5]; simp) (Ev.now _)
        · rw [List.drop_of_length_le (by rw [len]; omega)]
          exact Ev.step (f := fun _ => some (-1, s, a)) (fun k => by rw [base, if_neg q1, if_neg q2, if_pos q3, if_pos (by omega)]) (Ev.now _)
      · rw [if_neg q3]
        refine Ev.step (f := fun k => lex_cursor_text.l0 k ((n + 1 : Nat) : Int) s a) (fun k => by rw [base, if_neg q1, if_neg q2, if_neg q3]) ?_
        have := ih (s.size - (n + 1)) (by omega) (n + 1) rfl (by omega)
        cases hM : textN (s.data.toList.drop (n + 1)) with
        | none => rw [hM] at this; simpa using this
        | some m => rw [hM] at this; simp only [Option.map_some]; rw [show n + (m + 1) = n + 1 + m by omega]; exact this
    · refine Ev.step (f := fun k => some (-1, s, a)) (fun k => by rw [lex_cursor_text.l0, if_neg (by omega)]) ?_
      rw [List.drop_of_length_le (by rw [len]; omega)]
      simpa [textN] using Ev.now ((-1 : Int), s, a)
theorem tail_ev (s : ByteArray) (hs : s.size ≤ 140737488351232) (n m : Nat) (hm : n + m ≤ s.size) :
    Ev (fun k => lex_cursor_next.tl k s (n : Int) ((n + m : Nat) : Int)) ((wordsT (s.data.toList.drop n) m).1, ((n + m : Nat) : Int), s, (n : Int)) := by
  have h := kind_ev (s.extract n (n + m)) (by rw [← len, Lib.extract_data, List.length_take, List.length_drop, len]; omega)
  rw [Lib.extract_data, show n + m - n = m by omega] at h
  refine Ev.congr (f := fun k => (name_Kind.f k (s.extract n (n + m))).bind fun t => (if t = 0 then some (3, ((n + m : Nat) : Int), s, (n : Int)) else some (t, ((n + m : Nat) : Int), s, (n : Int)))) (fun k => ?_) ?_
  · unfold lex_cursor_next.tl
    rw [if_pos (by omega), Int.toNat_natCast, Int.toNat_natCast]
  · refine Ev.bind (f := fun _ (t : Int) => (if t = 0 then some (3, ((n + m : Nat) : Int), s, (n : Int)) else some (t, ((n + m : Nat) : Int), s, (n : Int)))) h ?_
    unfold wordsT
    by_cases hz : kindT ((s.data.toList.drop n).take m) = 0
    · rw [if_pos hz]; simpa [hz] using Ev.now ((3 : Int), ((n + m : Nat) : Int), s, (n : Int))
    · rw [if_neg hz]; simpa [hz] using Ev.now (kindT ((s.data.toList.drop n).take m), ((n + m : Nat) : Int), s, (n : Int))
theorem next_ev (s : ByteArray) (hs : s.size ≤ 140737488351232) (n : Nat) (hn : n < s.size) :
    Ev (fun k => lex_cursor_next.f k s (n : Int)) ((tk (s.data.toList.drop n)).1, ((n + (tk (s.data.toList.drop n)).2 : Nat) : Int), s, (n : Int)) := by
  obtain ⟨c, h1, h2⟩ := bt_nat s n hn
  have hdr := drop_cons h1
  have hlen : (s.data.toList.drop n).length = s.size - n := by rw [List.length_drop, len]
  have hrl : ∀ p, n + runLen p (s.data.toList.drop n) ≤ s.size := fun p => by have := runN_le p (s.data.toList.drop n); omega
  have pre : ((s.data.toList.drop n).take 2 == [40, 42]) = decide (c = 40 ∧ (s.data.toList.drop (n + 1)).head? = some 42) := by
    rw [hdr, Bool.eq_iff_iff, beq_iff_eq, decide_eq_true_iff]
    rcases s.data.toList.drop (n + 1) with _ | ⟨d, r⟩
    · simp
    · simp
  have e34 : ((c.toNat : Int) = 34) ↔ c = 34 := eqb c 34 (by omega)
  have base : ∀ k, lex_cursor_next.f k s (n : Int) = if isBlank c = true then (lex_cursor_run__lex_blank.f k s n n).bind fun r => some (1, r.1, r.2.1, r.2.2)
      else if (c = 40 ∧ (s.data.toList.drop (n + 1)).head? = some 42) then (lex_cursor_note.f k s n).bind fun r => (if r.1 < 0 then some (3, (r.2.1.size : Int), r.2.1, r.2.2) else some (2, r.1, r.2.1, r.2.2))
      else if c = 34 then (lex_cursor_text.f k s n).bind fun r => (if r.1 < 0 then (lex_cursor_line.f k r.2.1 r.2.2).bind fun q => some (3, q.1, q.2.1, q.2.2) else some (5, r.1, r.2.1, r.2.2))
      else if isDigit c = true then (lex_cursor_run__lex_digit.f k s n n).bind fun r => (lex_cursor_run__lex_rest.f k r.2.1 r.2.2 r.2.2).bind fun q => (if q.1 > r.1 then some (3, q.1, q.2.1, q.2.2) else some (4, q.1, q.2.1, q.2.2))
      else (lex_sign.f k (c.toNat : Int)).bind fun t => if t = true then (lex_cursor_run__lex_sign.f k s n n).bind fun r => lex_cursor_next.tl k r.2.1 r.2.2 r.1
      else (lex_rest.f k (c.toNat : Int)).bind fun t => if t = true then (lex_cursor_run__lex_rest.f k s n n).bind fun r => lex_cursor_next.tl k r.2.1 r.2.2 r.1
      else lex_cursor_next.tl k s n ((n + 1 : Nat) : Int) := by
    intro k
    unfold lex_cursor_next.f
    rw [if_pos (by omega), h2, blank_f, Int.toNat_natCast, prefix_f, drop_ext, digit_f, wrap_nat n (by omega)]
    simp only [Option.bind_some]
    congr 1
    rw [show (⟨#[40, 42]⟩ : ByteArray).data.toList.length = 2 from rfl, pre]
    by_cases q1 : (c = 40 ∧ (s.data.toList.drop (n + 1)).head? = some 42)
    · rw [if_pos q1, if_pos (decide_eq_true q1)]
    · rw [if_neg q1, if_neg (by rw [decide_eq_false q1]; simp)]
      by_cases q2 : c = 34
      · rw [if_pos q2, if_pos (e34.2 q2)]
      · rw [if_neg q2, if_neg (fun h => q2 (e34.1 h))]
  refine Ev.congr base ?_
  have tkd : tk (s.data.toList.drop n) = if isBlank c then ((1 : Int), runLen isBlank (s.data.toList.drop n))
      else if c = 40 ∧ (s.data.toList.drop (n + 1)).head? = some 42 then (match noteN (s.data.toList.drop n) 0 with | none => (3, (s.data.toList.drop n).length) | some m => (2, m))
      else if c = 34 then (match textN (s.data.toList.drop (n + 1)) with | none => (3, runLen (fun c => c != 10) (s.data.toList.drop n)) | some m => (5, m + 1))
      else if isDigit c then (if runLen isDigit (s.data.toList.drop n) < runLen isRest (s.data.toList.drop n) then (3, runLen isRest (s.data.toList.drop n)) else (4, runLen isRest (s.data.toList.drop n)))
      else if isSign c then wordsT (s.data.toList.drop n) (runLen isSign (s.data.toList.drop n))
      else if isRest c then wordsT (s.data.toList.drop n) (runLen isRest (s.data.toList.drop n))
      else wordsT (s.data.toList.drop n) 1 := by rw [hdr]; rfl
  rw [tkd]
  by_cases hb : isBlank c = true
  · rw [if_pos hb]
    simp only [if_pos hb]
    exact Ev.bind (f := fun _ (r : Int × ByteArray × Int) => some (1, r.1, r.2.1, r.2.2)) (rblank_ev s hs n n (by omega)) (Ev.now _)
  simp only [if_neg hb]
  by_cases q1 : (c = 40 ∧ (s.data.toList.drop (n + 1)).head? = some 42)
  · simp only [if_pos q1]
    have hN := note_ev s hs (s.size - n) n 0 rfl (by omega) (by omega)
    have hf : Ev (fun k => lex_cursor_note.f k s n) ((match noteN (s.data.toList.drop n) 0 with | none => -1 | some m => ((n + m : Nat) : Int)), s, (n : Int)) :=
      Ev.bind (f := fun _ (r : Int) => some (r, s, (n : Int))) hN (Ev.now _)
    refine Ev.bind (f := fun _ (r : Int × ByteArray × Int) => (if r.1 < 0 then some (3, (r.2.1.size : Int), r.2.1, r.2.2) else some (2, r.1, r.2.1, r.2.2))) hf ?_
    cases noteN (s.data.toList.drop n) 0 with
    | none =>
      dsimp only
      rw [if_pos (by omega), hlen, show n + (s.size - n) = s.size by omega]
      exact Ev.now _
    | some m =>
      dsimp only
      rw [if_neg (by omega)]
      exact Ev.now _
  simp only [if_neg q1]
  by_cases q2 : c = 34
  · simp only [if_pos q2]
    have hT := text_ev s hs n (s.size - (n + 1)) (n + 1) rfl (by omega)
    have hf : Ev (fun k => lex_cursor_text.f k s n) ((match textN (s.data.toList.drop (n + 1)) with | none => -1 | some m => ((n + 1 + m : Nat) : Int)), s, (n : Int)) := by
      unfold lex_cursor_text.f
      rw [wrap_nat n (by omega)]
      exact hT
    refine Ev.bind (f := fun k (r : Int × ByteArray × Int) => (if r.1 < 0 then (lex_cursor_line.f k r.2.1 r.2.2).bind fun q => some (3, q.1, q.2.1, q.2.2) else some (5, r.1, r.2.1, r.2.2))) hf ?_
    cases textN (s.data.toList.drop (n + 1)) with
    | none =>
      dsimp only
      simp only [if_pos (show (-1 : Int) < 0 by omega)]
      exact Ev.bind (f := fun _ (q : Int × ByteArray × Int) => some (3, q.1, q.2.1, q.2.2)) (line_ev s hs n (by omega)) (Ev.now _)
    | some m =>
      dsimp only
      simp only [if_neg (show ¬ (((n + 1 + m : Nat) : Int) < 0) by omega)]
      rw [show n + (m + 1) = n + 1 + m by omega]
      exact Ev.now _
  simp only [if_neg q2]
  by_cases hd : isDigit c = true
  · simp only [if_pos hd]
    refine Ev.bind (f := fun k (r : Int × ByteArray × Int) => (lex_cursor_run__lex_rest.f k r.2.1 r.2.2 r.2.2).bind fun q => (if q.1 > r.1 then some (3, q.1, q.2.1, q.2.2) else some (4, q.1, q.2.1, q.2.2))) (rdigit_ev s hs n n (by omega)) ?_
    refine Ev.bind (f := fun _ (q : Int × ByteArray × Int) => (if q.1 > ((n + runLen isDigit (s.data.toList.drop n) : Nat) : Int) then some (3, q.1, q.2.1, q.2.2) else some (4, q.1, q.2.1, q.2.2))) (rrest_ev s hs n n (by omega)) ?_
    dsimp only
    by_cases hg : runLen isDigit (s.data.toList.drop n) < runLen isRest (s.data.toList.drop n)
    · rw [if_pos (by omega), if_pos hg]; exact Ev.now _
    · rw [if_neg (by omega), if_neg hg]; exact Ev.now _
  simp only [if_neg hd]
  refine Ev.bind (f := fun k (t : Bool) => if t = true then (lex_cursor_run__lex_sign.f k s n n).bind fun r => lex_cursor_next.tl k r.2.1 r.2.2 r.1
      else (lex_rest.f k (c.toNat : Int)).bind fun t => if t = true then (lex_cursor_run__lex_rest.f k s n n).bind fun r => lex_cursor_next.tl k r.2.1 r.2.2 r.1
      else lex_cursor_next.tl k s n ((n + 1 : Nat) : Int)) (lsign_ev c) ?_
  by_cases hsg : isSign c = true
  · simp only [if_pos hsg, words_len]
    refine Ev.bind (f := fun k (r : Int × ByteArray × Int) => lex_cursor_next.tl k r.2.1 r.2.2 r.1) (rsign_ev s hs n n (by omega)) ?_
    exact tail_ev s hs n _ (hrl isSign)
  simp only [if_neg hsg]
  refine Ev.bind (f := fun k (t : Bool) => if t = true then (lex_cursor_run__lex_rest.f k s n n).bind fun r => lex_cursor_next.tl k r.2.1 r.2.2 r.1
      else lex_cursor_next.tl k s n ((n + 1 : Nat) : Int)) (lrest_ev c) ?_
  by_cases hrs : isRest c = true
  · simp only [if_pos hrs, words_len]
    refine Ev.bind (f := fun k (r : Int × ByteArray × Int) => lex_cursor_next.tl k r.2.1 r.2.2 r.1) (rrest_ev s hs n n (by omega)) ?_
    exact tail_ev s hs n _ (hrl isRest)
  simp only [if_neg hrs, words_len]
  exact tail_ev s hs n 1 (by omega)
/-- The tokens, with their places. -/
def places : Nat → List (Int × Nat) → List S51
  | n, [] => [⟨0, (n : Int), (n : Int)⟩]
  | n, (k, m) :: r => ⟨k, (n : Int), ((n + m : Nat) : Int)⟩ :: places (n + m) r
theorem scan_l (s : ByteArray) (hs : s.size ≤ 140737488351232) (hq : s.size < 5864062014805) : ∀ (d n : Nat) (xs : List S51), s.size - n = d → n ≤ s.size → xs.length ≤ n →
    Ev (fun k => lex_Scan.l k s s (n : Int) xs) (xs ++ places n (scan (s.data.toList.drop n))) := by
  intro d
  induction d using Nat.strongRecOn with
  | _ d ih =>
    intro n xs hd hn hx
    by_cases hlt : n < s.size
    · obtain ⟨c, h1, _⟩ := bt_nat s n hlt
      have hdr := drop_cons h1
      have hN := next_ev s hs n hlt
      have hl : (s.data.toList.drop n).length = s.size - n := by rw [List.length_drop, len]
      have ht := tk_len c (s.data.toList.drop (n + 1))
      rw [← hdr, hl] at ht
      rw [hdr, scan_cons, ← hdr, List.drop_drop]
      generalize tk (s.data.toList.drop n) = p at *
      obtain ⟨ty, m⟩ := p
      dsimp only at hN ht ⊢
      have hI := ih (s.size - (n + m)) (by omega) (n + m) (xs ++ [⟨ty, (n : Int), ((n + m : Nat) : Int)⟩]) rfl (by omega) (by simp; omega)
      refine Ev.step (f := fun k => (lex_cursor_next.f k s (n : Int)).bind fun r => (if xs.length < 5864062014805 then lex_Scan.l k s r.2.2.1 r.2.1 (xs ++ [⟨r.1, r.2.2.2, r.2.1⟩]) else none)) (fun k => by rw [lex_Scan.l, if_pos (by omega)]) ?_
      refine Ev.bind (f := fun k (r : Int × Int × ByteArray × Int) => (if xs.length < 5864062014805 then lex_Scan.l k s r.2.2.1 r.2.1 (xs ++ [⟨r.1, r.2.2.2, r.2.1⟩]) else none)) hN ?_
      simp only [if_pos (show xs.length < 5864062014805 by omega)]
      simpa [places] using hI
    · refine Ev.step (f := fun k => some (xs ++ [⟨0, (s.size : Int), (s.size : Int)⟩])) (fun k => by rw [lex_Scan.l, if_neg (by omega), if_pos (by omega)]) ?_
      have e : n = s.size := by omega
      subst e
      rw [List.drop_of_length_le (by rw [len]; omega), scan_nil]
      exact Ev.now _
theorem scan_ev (s : ByteArray) (hq : s.size ≤ 1000000) : Ev (fun k => lex_Scan.f k s) (places 0 (scan s.data.toList)) := by
  have := scan_l s (by omega) (by omega) s.size 0 [] (by omega) (by omega) (by simp)
  rw [List.drop_zero, List.nil_append] at this
  exact this
end Go.Proofs.YtfccifekaokibaaGreatDoor.Lx

