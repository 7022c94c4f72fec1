/- The document's own lexer comes to the same plain words. -/
import Derived.Test.YtfccifekaokibaaGreatDoorQTx16
import Derived.Test.YtfccifekaokibaaGreatDoorQTx15
import Derived.Test.YtfccifekaokibaaGreatDoorStRef
import Derived.Test.YtfccifekaokibaaGreatDoorLxTok
namespace Oriel.Lx
theorem all_digit : ∀ l : T, (l.takeWhile isRest).all isDigit = !decide (runLen isDigit l < runLen isRest l)
  | [] => rfl
  | b :: r => by
    unfold runLen
    rw [List.takeWhile_cons, List.takeWhile_cons]
    cases hd : isDigit b with
    | true =>
      have hr := digit_rest b hd
      have ih := all_digit r
      unfold runLen at ih
      rw [hr, if_pos rfl, if_pos rfl, List.all_cons, hd, Bool.true_and, ih, List.length_cons, List.length_cons]
      simp
    | false =>
      cases hr : isRest b with
      | true => simp [hd]
      | false => simp
theorem digit_kind (b : UInt8) (r : T) (h : isDigit b = true) : kindT (b :: r) = 0 := by
  have key : ∀ n : Fin 256, isDigit (UInt8.ofNat n.val) = true → isSign (UInt8.ofNat n.val) = false ∧ (UInt8.ofNat n.val == 39) = false ∧ isSmall (UInt8.ofNat n.val) = false ∧ isGreat (UInt8.ofNat n.val) = false ∧ marks1.contains (UInt8.ofNat n.val) = false ∧ (∀ q ∈ [[61], [61, 62], [124], [58], [58, 62], [45, 62]], q.head? ≠ some (UInt8.ofNat n.val)) := by decide +kernel
  have := key ⟨b.toNat, b.toNat_lt⟩
  simp only [UInt8.ofNat_toNat] at this
  obtain ⟨h1, h2, h3, h4, h5, h6⟩ := this h
  have hm : markT (b :: r) = false := by
    unfold markT
    have hres : reserved (b :: r) = false := by
      unfold reserved
      have q : ∀ q ∈ [[61], [61, 62], [124], [58], [58, 62], [45, 62]], ((b :: r) == q) = false := by
        intro q hq
        rw [beq_eq_false_iff_ne]
        intro e
        exact h6 q hq (by rw [← e]; rfl)
      rw [q _ (by simp), q _ (by simp), q _ (by simp), q _ (by simp), q _ (by simp), q _ (by simp)]
      rfl
    rw [hres]
    cases r with
    | nil => simpa using h5
    | cons c r => rfl
  unfold kindT
  dsimp only
  rw [hm, h1, h2, h3, h4]
  simp
theorem sign_rest (b : UInt8) (h : isSign b = true) : isRest b = false := by
  have key : ∀ n : Fin 256, isSign (UInt8.ofNat n.val) = true → isRest (UInt8.ofNat n.val) = false := by decide +kernel
  have := key ⟨b.toNat, b.toNat_lt⟩
  simp only [UInt8.ofNat_toNat] at this
  exact this h
theorem runLen_cons (p : UInt8 → Bool) (b : UInt8) (r : T) : runLen p (b :: r) = if p b = true then runLen p r + 1 else 0 := by
  unfold runLen
  rw [List.takeWhile_cons]
  cases p b <;> simp
end Oriel.Lx
namespace Go.Proofs.YtfccifekaokibaaGreatDoor.Rf
open Go.RowKit Go.Proofs.YtfccifekaokibaaGreatDoor.QT Go.Proofs.YtfccifekaokibaaGreatDoorW.PrintWords Go.Proofs.YtfccifekaokibaaGreatDoorW.PrintLast Oriel.Lx Go.Proofs.YtfccifekaokibaaGreatDoor.Lx
theorem q10 (c : UInt8) : ((c.toNat : Int) = 10) ↔ c = 10 := eqb c 10 (by omega)
theorem q34 (c : UInt8) : ((c.toNat : Int) = 34) ↔ c = 34 := eqb c 34 (by omega)
theorem q40 (c : UInt8) : ((c.toNat : Int) = 40) ↔ c = 40 := eqb c 40 (by omega)
theorem q41 (c : UInt8) : ((c.toNat : Int) = 41) ↔ c = 41 := eqb c 41 (by omega)
theorem q42 (c : UInt8) : ((c.toNat : Int) = 42) ↔ c = 42 := eqb c 42 (by omega)
theorem q92 (c : UInt8) : ((c.toNat : Int) = 92) ↔ c = 92 := eqb c 92 (by omega)
theorem q110 (c : UInt8) : ((c.toNat : Int) = 110) ↔ c = 110 := eqb c 110 (by omega)
theorem q116 (c : UInt8) : ((c.toNat : Int) = 116) ↔ c = 116 := eqb c 116 (by omega)
theorem xblank_f (c : UInt8) : orielref05_blank.f (c.toNat : Int) = some (isBlank c) := by
  refine all_bytes (P := fun c => orielref05_blank.f (c.toNat : Int) = some (isBlank c)) ?_ c
  decide +kernel
theorem xdigit_f (c : UInt8) : orielref05_digit.f (c.toNat : Int) = some (isDigit c) := by
  refine all_bytes (P := fun c => orielref05_digit.f (c.toNat : Int) = some (isDigit c)) ?_ c
  decide +kernel
theorem loop_ev {α : Type} (s : ByteArray) (p : UInt8 → Bool) (P : Nat → UInt8 → Option Bool) (hP : ∀ c, Ev (fun k => P k c) (p c)) (L D : Nat → Int → Option α)
    (hL : ∀ (k n : Nat) (c : UInt8), n < s.size → s.data.toList[n]? = some c → L (k + 1) (n : Int) = (P k c).bind fun t => if t = true then L k ((n + 1 : Nat) : Int) else D k (n : Int))
    (hE : ∀ k n : Nat, s.size ≤ n → L (k + 1) (n : Int) = D k (n : Int)) : ∀ (d n : Nat) (r : α), s.size - n = d → n ≤ s.size →
    Ev (fun k => D k ((n + runLen p (s.data.toList.drop n) : Nat) : Int)) r → Ev (fun k => L k (n : Int)) r := by
  intro d
  induction d with
  | zero =>
    intro n r hd hn h
    rw [List.drop_of_length_le (by rw [len]; omega)] at h
    exact Ev.step (f := fun k => D k (n : Int)) (fun k => hE k n (by omega)) h
  | succ d ih =>
    intro n r hd hn h
    obtain ⟨c, h1, _⟩ := bt_nat s n (by omega)
    rw [drop_cons h1, runLen_cons] at h
    refine Ev.step (f := fun k => (P k c).bind fun t => if t = true then L k ((n + 1 : Nat) : Int) else D k (n : Int)) (fun k => hL k n c (by omega) h1) ?_
    refine Ev.bind (f := fun k (t : Bool) => if t = true then L k ((n + 1 : Nat) : Int) else D k (n : Int)) (hP c) ?_
    cases hp : p c with
    | true =>
      simp only [if_true]
      rw [hp, if_pos rfl] at h
      refine ih (n + 1) r (by omega) (by omega) ?_
      rw [show n + 1 + runLen p (s.data.toList.drop (n + 1)) = n + (runLen p (s.data.toList.drop (n + 1)) + 1) by omega]
      exact h
    | false =>
      simp only [Bool.false_eq_true, if_false]
      rw [hp, if_neg (by simp), Nat.add_zero] at h
      exact h
theorem ktail_ev (s : ByteArray) (hs : s.size ≤ 140737488351232) (n m : Nat) (hm : n + m ≤ s.size) :
    Ev (fun k => if 0 ≤ (n : Int) then (if (n : Int) ≤ ((n + m : Nat) : Int) then (if ((n + m : Nat) : Int) ≤ (s.size : Int) then ((orielref04_Kind.f k (s.extract (n : Int).toNat (((n + m : Nat) : Int)).toNat)).bind fun t => (if t = 0 then (some ((3 : Int), (n : Int), ((n + m : Nat) : Int))) else (some (t, (n : Int), ((n + m : Nat) : Int))))) else none) else none) else none)
      ((wordsT (s.data.toList.drop n) m).1, (n : Int), ((n + m : Nat) : Int)) := by
  have h := rkind_ev (s.extract n (n + m)) (by rw [← len, Lib.extract_data, List.length_take, List.length_drop, len]; omega)
  rw [Lib.extract_data, show n + m - n = m by omega] at h
  refine Ev.congr (f := fun k => (orielref04_Kind.f k (s.extract n (n + m))).bind fun t => (if t = 0 then some ((3 : Int), (n : Int), ((n + m : Nat) : Int)) else some (t, (n : Int), ((n + m : Nat) : Int)))) (fun k => ?_) ?_
  · rw [if_pos (by omega), if_pos (by omega), if_pos (by omega), Int.toNat_natCast, Int.toNat_natCast]
  · refine Ev.bind (f := fun _ (t : Int) => (if t = 0 then some ((3 : Int), (n : Int), ((n + m : Nat) : Int)) else some (t, (n : Int), ((n + m : Nat) : Int)))) h ?_
    unfold wordsT
    by_cases hz : kindT ((s.data.toList.drop n).take m) = 0
    · rw [if_pos hz]; simpa [hz] using Ev.now ((3 : Int), (n : Int), ((n + m : Nat) : Int))
    · rw [if_neg hz]; simpa [hz] using Ev.now (kindT ((s.data.toList.drop n).take m), (n : Int), ((n + m : Nat) : Int))
theorem xnote_ev (s : ByteArray) (hs : s.size ≤ 140737488351232) : ∀ (e n d : Nat), s.size - n = e → n ≤ s.size → 1 ≤ d → d + (s.size - n) ≤ 140737488351232 →
    Ev (fun k => orielref05_note.l0 k s (d : Int) (n : Int)) (match noteN (s.data.toList.drop n) d with | none => 0 | some m => ((n + m : Nat) : Int)) := by
  intro e
  induction e using Nat.strongRecOn with
  | _ e ih =>
    intro n d he hn hd1 hd
    by_cases hlt : n + 1 < s.size
    · have w1 := wrap_nat n (by omega)
      have w2 := wrap_nat (n + 1) (by omega)
      have wd : wrap64 ((d : Int) + 1) = ((d + 1 : Nat) : Int) := by unfold wrap64; omega
      have wm : wrap64 ((d : Int) - 1) = ((d - 1 : Nat) : Int) := by unfold wrap64; omega
      obtain ⟨c, h1, h1b⟩ := bt_nat s n (by omega)
      obtain ⟨c2, h2, h2b⟩ := bt_nat s (n + 1) hlt
      have base : ∀ k, orielref05_note.l0 (k + 1) s (d : Int) (n : Int) = orielref05_note.j1 k s (d : Int) (n : Int) (decide (c = 40 ∧ c2 = 42)) := by
        intro k
        rw [orielref05_note.l0, w1, if_pos (by omega), if_pos (by omega), if_pos (by omega), h1b, if_pos (show (0 : Int) ≤ ((n + 1 : Nat) : Int) by omega), h2b]
        by_cases q : c = 40
        · rw [if_pos ((q40 c).2 q)]
          congr 1
          by_cases q2 : c2 = 42
          · rw [decide_eq_true ⟨q, q2⟩, beq_iff_eq]; exact (q42 c2).2 q2
          · rw [decide_eq_false (fun h => q2 h.2), beq_eq_false_iff_ne]; exact fun h => q2 ((q42 c2).1 h)
        · rw [if_neg (fun h => q ((q40 c).1 h)), decide_eq_false (fun h => q h.1)]
      have base2 : ∀ k, orielref05_note.j1 (k + 1) s (d : Int) (n : Int) false = orielref05_note.j2 k s (d : Int) (n : Int) (decide (c = 42 ∧ c2 = 41)) := by
        intro k
        rw [orielref05_note.j1, if_neg (by simp), if_pos (by omega), if_pos (by omega), h1b, w1, if_pos (show (0 : Int) ≤ ((n + 1 : Nat) : Int) by omega), if_pos (show ((n + 1 : Nat) : Int) < (s.size : Int) by omega), h2b]
        by_cases q : c = 42
        · rw [if_pos ((q42 c).2 q)]
          congr 1
          by_cases q2 : c2 = 41
          · rw [decide_eq_true ⟨q, q2⟩, beq_iff_eq]; exact (q41 c2).2 q2
          · rw [decide_eq_false (fun h => q2 h.2), beq_eq_false_iff_ne]; exact fun h => q2 ((q41 c2).1 h)
        · rw [if_neg (fun h => q ((q42 c).1 h)), decide_eq_false (fun h => q h.1)]
      rw [drop_cons h1, drop_cons h2]
      by_cases ho : c = 40 ∧ c2 = 42
      · obtain ⟨rfl, rfl⟩ := ho
        refine Ev.step (f := fun k => orielref05_note.j1 k s (d : Int) (n : Int) true) (fun k => by rw [base]; rfl) ?_
        refine Ev.step (f := fun k => orielref05_note.l0 k s ((d + 1 : Nat) : Int) ((n + 1 + 1 : Nat) : Int)) (fun k => by rw [orielref05_note.j1, if_pos rfl, wd, w1, w2]) ?_
        have := ih (s.size - (n + 1 + 1)) (by omega) (n + 1 + 1) (d + 1) rfl (by omega) (by omega) (by omega)
        simp only [noteN]
        cases hN : noteN (s.data.toList.drop (n + 1 + 1)) (d + 1) with
        | none => rw [hN] at this; simpa using this
        | some m => rw [hN] at this; simp only [Option.map_some]; rw [show n + (m + 2) = n + 1 + 1 + m by omega]; exact this
      · refine Ev.step (f := fun k => orielref05_note.j1 k s (d : Int) (n : Int) false) (fun k => by rw [base, decide_eq_false ho]) ?_
        by_cases hc : c = 42 ∧ c2 = 41
        · obtain ⟨rfl, rfl⟩ := hc
          refine Ev.step (f := fun k => orielref05_note.j2 k s (d : Int) (n : Int) true) (fun k => by rw [base2]; rfl) ?_
          simp only [noteN]
          by_cases h1d : 1 < d
          · refine Ev.step (f := fun k => orielref05_note.l0 k s ((d - 1 : Nat) : Int) ((n + 1 + 1 : Nat) : Int)) (fun k => by rw [orielref05_note.j2, if_pos rfl, wm, if_neg (by omega), w1, w2]) ?_
            have := ih (s.size - (n + 1 + 1)) (by omega) (n + 1 + 1) (d - 1) rfl (by omega) (by omega) (by omega)
            rw [if_pos h1d]
            cases hN : noteN (s.data.toList.drop (n + 1 + 1)) (d - 1) with
            | none => rw [hN] at this; simpa using this
            | some m => rw [hN] at this; simp only [Option.map_some]; rw [show n + (m + 2) = n + 1 + 1 + m by omega]; exact this
          · refine Ev.step (f := fun k => some ((n + 2 : Nat) : Int)) (fun k => by rw [orielref05_note.j2, if_pos rfl, wm, if_pos (by omega), w1, w2]) ?_
            rw [if_neg h1d]
            exact Ev.now _
        · have hN : noteN (c :: c2 :: s.data.toList.drop (n + 1 + 1)) d = if 0 < d then (noteN (c2 :: s.data.toList.drop (n + 1 + 1)) d).map (· + 1) else some 1 := by
            rw [noteN]
            · intro r h1 h2; injection h2 with h2 _; exact ho ⟨h1, h2⟩
            · intro r h1 h2; injection h2 with h2 _; exact hc ⟨h1, h2⟩
          refine Ev.step (f := fun k => orielref05_note.j2 k s (d : Int) (n : Int) false) (fun k => by rw [base2, decide_eq_false hc]) ?_
          refine Ev.step (f := fun k => orielref05_note.l0 k s (d : Int) ((n + 1 : Nat) : Int)) (fun k => by rw [orielref05_note.j2, if_neg (by simp), w1]) ?_
          have := ih (s.size - (n + 1)) (by omega) (n + 1) d rfl (by omega) hd1 (by omega)
          rw [hN, if_pos (by omega)]
          rw [drop_cons h2] at this
          cases hM : noteN (c2 :: s.data.toList.drop (n + 1 + 1)) d with
          | none => rw [hM] at this; simpa using this
          | some m => rw [hM] at this; simp only [Option.map_some]; rw [show n + (m + 1) = n + 1 + m by omega]; exact this
    · refine Ev.step (f := fun k => some 0) (fun k => by rw [orielref05_note.l0, wrap_nat n (by omega), if_neg (by omega)]) ?_
      have hN : noteN (s.data.toList.drop n) d = none := by
        by_cases h : n < s.size
        · obtain ⟨c, h1, _⟩ := bt_nat s n h
          rw [drop_cons h1, List.drop_of_length_le (by rw [len]; omega), noteN]
          · rw [if_pos (by omega)]; rfl
          · intro r _ h2; cases h2
          · intro r _ h2; cases h2
        · rw [List.drop_of_length_le (by rw [len]; omega)]
          rfl
      rw [hN]
      exact Ev.now _
theorem xnote0 (s : ByteArray) (hs : s.size ≤ 140737488351232) (n : Nat) (r : T) (h : s.data.toList.drop n = 40 :: 42 :: r) :
    Ev (fun k => orielref05_note.f k s (n : Int)) (match noteN (s.data.toList.drop n) 0 with | none => 0 | some m => ((n + m : Nat) : Int)) := by
  have hl := congrArg List.length h
  rw [List.length_drop, len] at hl
  simp only [List.length_cons] at hl
  obtain ⟨c, h1, h1b⟩ := bt_nat s n (by omega)
  obtain ⟨c2, h2, h2b⟩ := bt_nat s (n + 1) (by omega)
  have hdr := drop_cons h1
  have hdr2 := drop_cons h2
  rw [h, hdr2] at hdr
  injection hdr with q1 q2
  injection q2 with q2 q3
  subst q1 q2 q3
  have w1 := wrap_nat n (by omega)
  have w2 := wrap_nat (n + 1) (by omega)
  unfold orielref05_note.f
  refine Ev.step (f := fun k => orielref05_note.j1 k s 0 (n : Int) true) (fun k => by
    rw [orielref05_note.l0, w1, if_pos (by omega), if_pos (by omega), if_pos (by omega), h1b, if_pos (by rfl), if_pos (show (0 : Int) ≤ ((n + 1 : Nat) : Int) by omega), h2b]
    rfl) ?_
  refine Ev.step (f := fun k => orielref05_note.l0 k s ((1 : Nat) : Int) ((n + 1 + 1 : Nat) : Int)) (fun k => by rw [orielref05_note.j1, if_pos rfl, w1, w2, show wrap64 (0 + 1) = ((1 : Nat) : Int) by unfold wrap64; omega]) ?_
  have := xnote_ev s hs (s.size - (n + 1 + 1)) (n + 1 + 1) 1 rfl (by omega) (by omega) (by omega)
  rw [h]
  simp only [noteN]
  cases hN : noteN (s.data.toList.drop (n + 1 + 1)) (0 + 1) with
  | none => rw [show (0 + 1) = 1 from rfl] at hN; rw [hN] at this; simpa using this
  | some m => rw [show (0 + 1) = 1 from rfl] at hN; rw [hN] at this; simp only [Option.map_some]; rw [show n + (m + 2) = n + 1 + 1 + m by omega]; exact this
theorem xtext_ev (s : ByteArray) (hs : s.size ≤ 140737488351232) : ∀ (e n : Nat), s.size - n = e → n ≤ s.size →
    Ev (fun k => orielref05_text.l0 k s (n : Int)) (match textN (s.data.toList.drop n) with | none => 0 | some m => ((n + m : Nat) : Int)) := by
  intro e
  induction e using Nat.strongRecOn with
  | _ e ih =>
    intro n he hn
    by_cases hlt : n < s.size
    · obtain ⟨c, h1, h2⟩ := bt_nat s n hlt
      have w1 := wrap_nat n (by omega)
      have w2 := wrap_nat (n + 1) (by omega)
      rw [drop_cons h1]
      unfold textN
      by_cases q1 : c = 34
      · rw [if_pos q1]
        exact Ev.step (f := fun _ => some ((n + 1 : Nat) : Int)) (fun k => by rw [orielref05_text.l0, if_pos (by omega), if_pos (by omega), h2, if_pos ((q34 c).2 q1), w1]) (Ev.now _)
      have p1 : ¬ (c.toNat : Int) = 34 := fun h => q1 ((q34 c).1 h)
      rw [if_neg q1]
      by_cases q2 : c = 10
      · rw [if_pos q2]
        exact Ev.step (f := fun _ => some 0) (fun k => by rw [orielref05_text.l0, if_pos (by omega), if_pos (by omega), h2, if_neg p1, if_pos ((q10 c).2 q2)]) (Ev.now _)
      have p2 : ¬ (c.toNat : Int) = 10 := fun h => q2 ((q10 c).1 h)
      rw [if_neg q2]
      by_cases q3 : c = 92
      · rw [if_pos q3]
        have p3 : (c.toNat : Int) = 92 := (q92 c).2 q3
        by_cases q4 : n + 1 < s.size
        · obtain ⟨c2, g1, g2⟩ := bt_nat s (n + 1) q4
          rw [drop_cons g1]
          dsimp only
          have base : ∀ k, orielref05_text.l0 (k + 1) s (n : Int) = if c2 = 34 ∨ c2 = 92 ∨ c2 = 110 ∨ c2 = 116 then orielref05_text.l0 k s ((n + 1 + 1 : Nat) : Int) else some 0 := by
            intro k
            rw [orielref05_text.l0, if_pos (by omega), if_pos (by omega), h2, if_neg p1, if_neg p2, if_pos p3, w1, if_neg (by omega), if_pos (by omega), if_pos (by omega), g2, w2]
            by_cases r1 : c2 = 34
            · rw [if_pos ((q34 c2).2 r1), if_pos (.inl r1)]
            · rw [if_neg (fun h => r1 ((q34 c2).1 h))]
              by_cases r2 : c2 = 92
              · rw [if_pos ((q92 c2).2 r2), if_pos (.inr (.inl r2))]
              · rw [if_neg (fun h => r2 ((q92 c2).1 h))]
                by_cases r3 : c2 = 110
                · rw [if_pos ((q110 c2).2 r3), if_pos (.inr (.inr (.inl r3)))]
                · rw [if_neg (fun h => r3 ((q110 c2).1 h))]
                  by_cases r4 : c2 = 116
                  · rw [if_pos ((q116 c2).2 r4), if_pos (.inr (.inr (.inr r4)))]
                  · rw [if_neg (fun h => r4 ((q116 c2).1 h)), if_neg]
                    rintro (h | h | h | h)
                    · exact r1 h
                    · exact r2 h
                    · exact r3 h
                    · exact r4 h
          by_cases q5 : c2 = 34 ∨ c2 = 92 ∨ c2 = 110 ∨ c2 = 116
          · rw [if_pos q5]
            refine Ev.step (f := fun k => orielref05_text.l0 k s ((n + 1 + 1 : Nat) : Int)) (fun k => by rw [base, if_pos q5]) ?_
            have := ih (s.size - (n + 1 + 1)) (by omega) (n + 1 + 1) rfl (by omega)
            cases hM : textN (s.data.toList.drop (n + 1 + 1)) with
            | none => rw [hM] at this; simpa using this
            | some m => rw [hM] at this; simp only [Option.map_some]; rw [show n + (m + 2) = n + 1 + 1 + m by omega]; exact this
          · rw [if_neg q5]
            exact Ev.step (f := fun _ => some 0) (fun k => by rw [base, if_neg q5]) (Ev.now _)
        · rw [List.drop_of_length_le (by rw [len]; omega)]
          exact Ev.step (f := fun _ => some 0) (fun k => by rw [orielref05_text.l0, if_pos (by omega), if_pos (by omega), h2, if_neg p1, if_neg p2, if_pos p3, w1, if_pos (by omega)]) (Ev.now _)
      · have p3 : ¬ (c.toNat : Int) = 92 := fun h => q3 ((q92 c).1 h)
        rw [if_neg q3]
        refine Ev.step (f := fun k => orielref05_text.l0 k s ((n + 1 : Nat) : Int)) (fun k => by rw [orielref05_text.l0, if_pos (by omega), if_pos (by omega), h2, if_neg p1, if_neg p2, if_neg p3, w1]) ?_
        have := ih (s.size - (n + 1)) (by omega) (n + 1) rfl (by omega)
        cases hM : textN (s.data.toList.drop (n + 1)) with
        | none => rw [hM] at this; simpa using this
        | some m => rw [hM] at this; simp only [Option.map_some]; rw [show n + (m + 1) = n + 1 + m by omega]; exact this
    · refine Ev.step (f := fun k => some 0) (fun k => by rw [orielref05_text.l0, if_neg (by omega)]) ?_
      rw [List.drop_of_length_le (by rw [len]; omega)]
      simpa [textN] using Ev.now (0 : Int)
theorem j4_ev (s : ByteArray) (hs : s.size ≤ 140737488351232) (n m : Nat) (hm : n + m ≤ s.size) (W : Bool) :
    Ev (fun k => orielref05_Next.j4 k s (n : Int) W 3 (n : Int) ((n + m : Nat) : Int)) ((if W = true then 4 else (wordsT (s.data.toList.drop n) m).1), (n : Int), ((n + m : Nat) : Int)) := by
  cases W with
  | true => exact Ev.step (f := fun _ => some ((4 : Int), (n : Int), ((n + m : Nat) : Int))) (fun k => by rw [orielref05_Next.j4, if_pos rfl]) (Ev.now _)
  | false =>
    have h := ktail_ev s hs n m hm
    refine Ev.step (f := fun k => if 0 ≤ (n : Int) then (if (n : Int) ≤ ((n + m : Nat) : Int) then (if ((n + m : Nat) : Int) ≤ (s.size : Int) then ((orielref04_Kind.f k (s.extract (n : Int).toNat (((n + m : Nat) : Int)).toNat)).bind fun t => (if t = 0 then (some ((3 : Int), (n : Int), ((n + m : Nat) : Int))) else (some (t, (n : Int), ((n + m : Nat) : Int))))) else none) else none) else none) (fun k => by rw [orielref05_Next.j4, if_neg (by simp)]) ?_
    simpa using h
theorem l2_ev (s : ByteArray) (hs : s.size ≤ 140737488351232) (n : Nat) : ∀ (d m : Nat) (W : Bool), s.size - (n + m) = d → n + m ≤ s.size →
    Ev (fun k => orielref05_Next.l2 k s (n : Int) W 3 (n : Int) ((n + m : Nat) : Int)) ((if (W && ((s.data.toList.drop (n + m)).takeWhile isRest).all isDigit) = true then 4 else (wordsT (s.data.toList.drop n) (m + runLen isRest (s.data.toList.drop (n + m)))).1), (n : Int), ((n + (m + runLen isRest (s.data.toList.drop (n + m))) : Nat) : Int)) := by
  intro d
  induction d with
  | zero =>
    intro m W hd hm
    rw [List.drop_of_length_le (i := n + m) (by rw [len]; omega)]
    refine Ev.step (f := fun k => orielref05_Next.j4 k s (n : Int) W 3 (n : Int) ((n + m : Nat) : Int)) (fun k => by rw [orielref05_Next.l2, if_neg (by omega)]) ?_
    have := j4_ev s hs n m hm W
    simpa [runLen] using this
  | succ d ih =>
    intro m W hd hm
    obtain ⟨c, h1, h2⟩ := bt_nat s (n + m) (by omega)
    have w1 := wrap_nat (n + m) (by omega)
    rw [drop_cons h1, runLen_cons, List.takeWhile_cons]
    cases hr : isRest c with
    | true =>
      simp only [if_true]
      have I := ih (m + 1) (W && isDigit c) (by omega) (by omega)
      rw [show n + (m + 1) = n + m + 1 by omega] at I
      rw [List.all_cons, ← Bool.and_assoc, show m + (runLen isRest (s.data.toList.drop (n + m + 1)) + 1) = m + 1 + runLen isRest (s.data.toList.drop (n + m + 1)) by omega]
      refine Ev.step (f := fun k => orielref05_Next.l2 k s (n : Int) (W && isDigit c) 3 (n : Int) ((n + m + 1 : Nat) : Int)) (fun k => ?_) I
      rw [orielref05_Next.l2, if_pos (by omega), if_pos (by omega), h2, rrest_f, hr, w1]
      simp only [Option.bind_some, if_true]
      cases W with
      | true => simp [xdigit_f]
      | false => simp
    | false =>
      simp only [Bool.false_eq_true, if_false]
      have := j4_ev s hs n m hm W
      refine Ev.step (f := fun k => orielref05_Next.j4 k s (n : Int) W 3 (n : Int) ((n + m : Nat) : Int)) (fun k => by rw [orielref05_Next.l2, if_pos (by omega), if_pos (by omega), h2, rrest_f, hr]; rfl) ?_
      simpa using this
theorem xnext_ev (s : ByteArray) (hs : s.size ≤ 140737488351232) (n : Nat) (hn : n < s.size) :
    Ev (fun k => orielref05_Next.f k s (n : Int)) ((tk (s.data.toList.drop n)).1, (n : Int), ((n + (tk (s.data.toList.drop n)).2 : Nat) : Int)) := by
  obtain ⟨c, h1, h2⟩ := bt_nat s n hn
  have hdr := drop_cons h1
  have w1 := wrap_nat n (by omega)
  have hlen : (s.data.toList.drop n).length = s.size - n := by rw [List.length_drop, len]
  have hrl : ∀ p, n + runLen p (s.data.toList.drop n) ≤ s.size := fun p => by have := runN_le p (s.data.toList.drop n); omega
  have hrun : ∀ p : UInt8 → Bool, p c = true → runLen p (s.data.toList.drop n) = 1 + runLen p (s.data.toList.drop (n + 1)) := fun p hp => by rw [hdr, runLen_cons, hp, if_pos rfl]; omega
  have hhead : ∀ k, orielref05_Next.f k s (n : Int) = if isBlank c = true then orielref05_Next.l0 k s 1 (n : Int) ((n + 1 : Nat) : Int) else orielref05_Next.j1 k s (n : Int) (c.toNat : Int) (decide (c = 40 ∧ (s.data.toList.drop (n + 1)).head? = some 42)) 3 (n : Int) ((n + 1 : Nat) : Int) := by
    intro k
    unfold orielref05_Next.f
    rw [if_pos (by omega), if_pos (by omega), h2, xblank_f, w1, Option.bind_some]
    by_cases hb : isBlank c = true
    · rw [if_pos hb, if_pos hb]
    · rw [if_neg hb, if_neg hb]
      by_cases q : c = 40
      · rw [if_pos ((q40 c).2 q)]
        by_cases g : n + 1 < s.size
        · obtain ⟨c2, g1, g2⟩ := bt_nat s (n + 1) g
          rw [if_pos (show ((n + 1 : Nat) : Int) < (s.size : Int) by omega), if_pos (show (0 : Int) ≤ ((n + 1 : Nat) : Int) by omega), g2, drop_cons g1]
          congr 1
          by_cases r : c2 = 42
          · rw [decide_eq_true ⟨q, by rw [r]; rfl⟩, beq_iff_eq]; exact (q42 c2).2 r
          · rw [decide_eq_false (fun h => r (Option.some.inj h.2)), beq_eq_false_iff_ne]; exact fun h => r ((q42 c2).1 h)
        · rw [if_neg (by omega), List.drop_of_length_le (by rw [len]; omega), decide_eq_false (fun h => by cases h.2)]
      · rw [if_neg (fun h => q ((q40 c).1 h)), decide_eq_false (fun h => q h.1)]
  refine Ev.congr hhead ?_
  have tkd : tk (s.data.toList.drop n) = if isBlank c then ((1 : Int), runLen isBlank (s.data.toList.drop n))
      else if c = 40 ∧ (s.data.toList.drop (n + 1)).head? = some 42 then (match noteN (s.data.toList.drop n) 0 with | none => (3, (s.data.toList.drop n).length) | some m => (2, m))
      else if c = 34 then (match textN (s.data.toList.drop (n + 1)) with | none => (3, runLen (fun c => c != 10) (s.data.toList.drop n)) | some m => (5, m + 1))
      else if isDigit c then (if runLen isDigit (s.data.toList.drop n) < runLen isRest (s.data.toList.drop n) then (3, runLen isRest (s.data.toList.drop n)) else (4, runLen isRest (s.data.toList.drop n)))
      else if isSign c then wordsT (s.data.toList.drop n) (runLen isSign (s.data.toList.drop n))
      else if isRest c then wordsT (s.data.toList.drop n) (runLen isRest (s.data.toList.drop n))
      else wordsT (s.data.toList.drop n) 1 := by rw [hdr]; rfl
  rw [tkd]
  by_cases hb : isBlank c = true
  · simp only [if_pos hb]
    rw [hrun isBlank hb]
    refine loop_ev s isBlank (fun _ c => some (isBlank c)) (fun c => Ev.now _) (fun k e => orielref05_Next.l0 k s 1 (n : Int) e) (fun _ e => some (1, (n : Int), e)) ?_ ?_ _ (n + 1) _ rfl (by omega) ?_
    · intro k m c hm g1
      obtain ⟨c2, g2, g3⟩ := bt_nat s m hm
      rw [g1] at g2
      obtain rfl := Option.some.inj g2
      show orielref05_Next.l0 (k + 1) s 1 (n : Int) (m : Int) = _
      rw [orielref05_Next.l0, if_pos (by omega), if_pos (by omega), g3, xblank_f, wrap_nat m (by omega)]
    · intro k m hm
      show orielref05_Next.l0 (k + 1) s 1 (n : Int) (m : Int) = _
      rw [orielref05_Next.l0, if_neg (by omega)]
    · rw [show n + (1 + runLen isBlank (s.data.toList.drop (n + 1))) = n + 1 + runLen isBlank (s.data.toList.drop (n + 1)) by omega]
      exact Ev.now _
  simp only [if_neg hb]
  by_cases q1 : (c = 40 ∧ (s.data.toList.drop (n + 1)).head? = some 42)
  · rw [decide_eq_true q1, if_pos q1]
    obtain ⟨r, hr⟩ : ∃ r, s.data.toList.drop n = 40 :: 42 :: r := by
      rw [hdr]
      rcases hq : s.data.toList.drop (n + 1) with _ | ⟨c2, r⟩
      · rw [hq] at q1; cases q1.2
      · rw [hq] at q1; exact ⟨r, by rw [q1.1, Option.some.inj q1.2]⟩
    refine Ev.step (f := fun k => (orielref05_note.f k s (n : Int)).bind fun t => (if t > 0 then (some ((2 : Int), (n : Int), t)) else (some ((3 : Int), (n : Int), (s.size : Int))))) (fun k => by rw [orielref05_Next.j1, if_pos rfl]) ?_
    refine Ev.bind (f := fun _ (t : Int) => (if t > 0 then (some ((2 : Int), (n : Int), t)) else (some ((3 : Int), (n : Int), (s.size : Int))))) (xnote0 s hs n r hr) ?_
    cases hN : noteN (s.data.toList.drop n) 0 with
    | none =>
      dsimp only
      rw [if_neg (by omega), hlen, show n + (s.size - n) = s.size by omega]
      exact Ev.now _
    | some m =>
      have := noteN_le _ _ _ _ (Nat.le_refl _) hN
      dsimp only
      rw [if_pos (by omega)]
      exact Ev.now _
  rw [decide_eq_false q1, if_neg q1]
  by_cases q2 : c = 34
  · rw [if_pos q2]
    refine Ev.step (f := fun k => (orielref05_text.f k s (n : Int)).bind fun t => (if t > 0 then (some ((5 : Int), (n : Int), t)) else (orielref05_Next.l1 k s 3 (n : Int) ((n + 1 : Nat) : Int)))) (fun k => by rw [orielref05_Next.j1, if_neg (by simp), if_pos ((q34 c).2 q2)]) ?_
    have hT := xtext_ev s hs (s.size - (n + 1)) (n + 1) rfl (by omega)
    have hf : Ev (fun k => orielref05_text.f k s (n : Int)) (match textN (s.data.toList.drop (n + 1)) with | none => 0 | some m => ((n + 1 + m : Nat) : Int)) := by
      unfold orielref05_text.f
      rw [w1]
      exact hT
    refine Ev.bind (f := fun k (t : Int) => (if t > 0 then (some ((5 : Int), (n : Int), t)) else (orielref05_Next.l1 k s 3 (n : Int) ((n + 1 : Nat) : Int)))) hf ?_
    cases textN (s.data.toList.drop (n + 1)) with
    | none =>
      dsimp only
      simp only [if_neg (show ¬ ((0 : Int) > 0) by omega)]
      rw [hrun (fun c => c != 10) (by rw [q2]; rfl)]
      refine loop_ev s (fun c => c != 10) (fun _ c => some (c != 10)) (fun c => Ev.now _) (fun k e => orielref05_Next.l1 k s 3 (n : Int) e) (fun _ e => some (3, (n : Int), e)) ?_ ?_ _ (n + 1) _ rfl (by omega) ?_
      · intro k m c hm g1
        obtain ⟨c2, g2, g3⟩ := bt_nat s m hm
        rw [g1] at g2
        obtain rfl := Option.some.inj g2
        show orielref05_Next.l1 (k + 1) s 3 (n : Int) (m : Int) = _
        rw [orielref05_Next.l1, if_pos (by omega), if_pos (by omega), g3, wrap_nat m (by omega), Option.bind_some]
        by_cases r : c = 10
        · rw [if_pos ((q10 c).2 r), if_neg (by rw [r]; decide)]
        · rw [if_neg (fun h => r ((q10 c).1 h)), if_pos (by simpa using r)]
      · intro k m hm
        show orielref05_Next.l1 (k + 1) s 3 (n : Int) (m : Int) = _
        rw [orielref05_Next.l1, if_neg (by omega)]
      · rw [show n + (1 + runLen (fun c => c != 10) (s.data.toList.drop (n + 1))) = n + 1 + runLen (fun c => c != 10) (s.data.toList.drop (n + 1)) by omega]
        exact Ev.now _
    | some m =>
      dsimp only
      simp only [if_pos (show ((n + 1 + m : Nat) : Int) > 0 by omega)]
      rw [show n + (m + 1) = n + 1 + m by omega]
      exact Ev.now _
  rw [if_neg q2]
  have p2 : ¬ (c.toNat : Int) = 34 := fun h => q2 ((q34 c).1 h)
  by_cases hr : isRest c = true
  · have hns : isSign c = false := by
      cases h : isSign c with
      | false => rfl
      | true => rw [sign_rest c h] at hr; cases hr
    have hk := l2_ev s hs n _ 1 (isDigit c) rfl (by omega)
    refine Ev.step (f := fun k => orielref05_Next.l2 k s (n : Int) (isDigit c) 3 (n : Int) ((n + 1 : Nat) : Int)) (fun k => by rw [orielref05_Next.j1, if_neg (by simp), if_neg p2, rrest_f, hr, Option.bind_some, if_pos rfl, xdigit_f, Option.bind_some]) ?_
    have hw : (isDigit c && ((s.data.toList.drop (n + 1)).takeWhile isRest).all isDigit) = !decide (runLen isDigit (s.data.toList.drop n) < runLen isRest (s.data.toList.drop n)) := by
      rw [← all_digit, hdr, List.takeWhile_cons, hr, if_pos rfl, List.all_cons]
    rw [hw, ← hrun isRest hr] at hk
    rw [hns]
    simp only [Bool.false_eq_true, if_false, if_pos hr]
    by_cases hd : isDigit c = true
    · simp only [if_pos hd]
      by_cases hg : runLen isDigit (s.data.toList.drop n) < runLen isRest (s.data.toList.drop n)
      · rw [if_pos hg]
        rw [decide_eq_true hg] at hk
        have h3 : (wordsT (s.data.toList.drop n) (runLen isRest (s.data.toList.drop n))).1 = 3 := by
          unfold wordsT
          rw [if_pos]
          rw [hrun isRest hr, hdr, Nat.add_comm, List.take_succ_cons]
          exact digit_kind c _ hd
        rw [h3] at hk
        simpa using hk
      · rw [if_neg hg]
        rw [decide_eq_false hg] at hk
        simpa using hk
    · simp only [if_neg hd]
      have hz : runLen isDigit (s.data.toList.drop n) < runLen isRest (s.data.toList.drop n) := by
        rw [hrun isRest hr, hdr, runLen_cons, if_neg hd]
        omega
      rw [decide_eq_true hz] at hk
      rw [words_len]
      simpa using hk
  have hnd : ¬ isDigit c = true := fun h => hr (digit_rest c h)
  simp only [if_neg hr, if_neg hnd]
  have hr2 : isRest c = false := by simpa using hr
  refine Ev.step (f := fun k => (orielref04_Signs.f k (c.toNat : Int)).bind fun t => (if t = true then (orielref05_Next.l3 k s (n : Int) 3 (n : Int) ((n + 1 : Nat) : Int)) else (if 0 ≤ (n : Int) then (if (n : Int) ≤ ((n + 1 : Nat) : Int) then (if ((n + 1 : Nat) : Int) ≤ (s.size : Int) then ((orielref04_Kind.f k (s.extract (n : Int).toNat (((n + 1 : Nat) : Int)).toNat)).bind fun t => (if t = 0 then (some ((3 : Int), (n : Int), ((n + 1 : Nat) : Int))) else (some (t, (n : Int), ((n + 1 : Nat) : Int))))) else none) else none) else none))) (fun k => by rw [orielref05_Next.j1, if_neg (by simp), if_neg p2, rrest_f, hr2, Option.bind_some, if_neg (by simp)]) ?_
  refine Ev.bind (f := fun k (t : Bool) => (if t = true then (orielref05_Next.l3 k s (n : Int) 3 (n : Int) ((n + 1 : Nat) : Int)) else (if 0 ≤ (n : Int) then (if (n : Int) ≤ ((n + 1 : Nat) : Int) then (if ((n + 1 : Nat) : Int) ≤ (s.size : Int) then ((orielref04_Kind.f k (s.extract (n : Int).toNat (((n + 1 : Nat) : Int)).toNat)).bind fun t => (if t = 0 then (some ((3 : Int), (n : Int), ((n + 1 : Nat) : Int))) else (some (t, (n : Int), ((n + 1 : Nat) : Int))))) else none) else none) else none))) (rsign_ev c) ?_
  cases hsg : isSign c with
  | true =>
    simp only [if_true, words_len]
    refine loop_ev s isSign (fun k c => orielref04_Signs.f k (c.toNat : Int)) rsign_ev (fun k e => orielref05_Next.l3 k s (n : Int) 3 (n : Int) e) (fun k e => if 0 ≤ (n : Int) then (if (n : Int) ≤ e then (if e ≤ (s.size : Int) then ((orielref04_Kind.f k (s.extract (n : Int).toNat e.toNat)).bind fun t => (if t = 0 then (some ((3 : Int), (n : Int), e)) else (some (t, (n : Int), e)))) else none) else none) else none) ?_ ?_ _ (n + 1) _ rfl (by omega) ?_
    · intro k m c hm g1
      obtain ⟨c2, g2, g3⟩ := bt_nat s m hm
      rw [g1] at g2
      obtain rfl := Option.some.inj g2
      show orielref05_Next.l3 (k + 1) s (n : Int) 3 (n : Int) (m : Int) = _
      rw [orielref05_Next.l3, if_pos (by omega), if_pos (by omega), g3, wrap_nat m (by omega)]
    · intro k m hm
      show orielref05_Next.l3 (k + 1) s (n : Int) 3 (n : Int) (m : Int) = _
      rw [orielref05_Next.l3, if_neg (by omega)]
    · have hq := hrun isSign hsg
      have := ktail_ev s hs n (runLen isSign (s.data.toList.drop n)) (hrl isSign)
      rw [show n + 1 + runLen isSign (s.data.toList.drop (n + 1)) = n + runLen isSign (s.data.toList.drop n) by omega]
      exact this
  | false =>
    simp only [Bool.false_eq_true, if_false, words_len]
    exact ktail_ev s hs n 1 (by omega)
theorem xscan_l (s : ByteArray) (hq : s.size ≤ 1000000) : ∀ (d n i : Nat) (xs : List S51), s.size - n = d → n ≤ s.size → xs.length ≤ n → i ≤ n →
    Ev (fun k => orielref05_Scan.l0 k s xs (n : Int) (i : Int)) (xs ++ places n (scan (s.data.toList.drop n))) := by
  intro d
  induction d using Nat.strongRecOn with
  | _ d ih =>
    intro n i xs hd hn hx hi
    by_cases hlt : n < s.size
    · obtain ⟨c, h1, _⟩ := bt_nat s n hlt
      have hdr := drop_cons h1
      have hN := xnext_ev s (by omega) n hlt
      have hl : (s.data.toList.drop n).length = s.size - n := by rw [List.length_drop, len]
      have ht := tk_len c (s.data.toList.drop (n + 1))
      rw [← hdr, hl] at ht
      rw [hdr, scan_cons, ← hdr, List.drop_drop]
      generalize tk (s.data.toList.drop n) = p at *
      obtain ⟨ty, m⟩ := p
      dsimp only at hN ht ⊢
      have hI := ih (s.size - (n + m)) (by omega) (n + m) (i + 1) (xs ++ [⟨ty, (n : Int), ((n + m : Nat) : Int)⟩]) rfl (by omega) (by simp; omega) (by omega)
      refine Ev.step (f := fun k => (orielref05_Next.f k s (n : Int)).bind fun b => (if xs.length < 5864062014805 then orielref05_Scan.l0 k s (xs ++ [(⟨b.1, b.2.1, b.2.2⟩ : S51)]) b.2.2 ((i + 1 : Nat) : Int) else none)) (fun k => by rw [orielref05_Scan.l0, if_pos (by omega), if_pos (by omega), wrap_nat i (by omega)]) ?_
      refine Ev.bind (f := fun k (b : Int × Int × Int) => (if xs.length < 5864062014805 then orielref05_Scan.l0 k s (xs ++ [(⟨b.1, b.2.1, b.2.2⟩ : S51)]) b.2.2 ((i + 1 : Nat) : Int) else none)) hN ?_
      simp only [if_pos (show xs.length < 5864062014805 by omega)]
      simpa [places] using hI
    · refine Ev.step (f := fun k => some (xs ++ [⟨0, (s.size : Int), (s.size : Int)⟩])) (fun k => ?_) ?_
      · rw [orielref05_Scan.l0]
        by_cases hc : (i : Int) ≤ (s.size : Int)
        · rw [if_pos hc, if_neg (by omega), if_pos (by omega)]
        · rw [if_neg hc, if_pos (by omega)]
      · have e : n = s.size := by omega
        subst e
        rw [List.drop_of_length_le (by rw [len]; omega), scan_nil]
        exact Ev.now _
theorem xscan_ev (s : ByteArray) (hq : s.size ≤ 1000000) : Ev (fun k => orielref05_Scan.f k s) (places 0 (scan s.data.toList)) := by
  have := xscan_l s hq s.size 0 0 [] (by omega) (by omega) (by simp) (by omega)
  rw [List.drop_zero, List.nil_append] at this
  exact this
def named (x : S51) : Bool := x.f0 == 6 || x.f0 == 7 || x.f0 == 9
theorem named_f (x : S51) : orielref05_Named.f x.f0 = some (named x) := by
  unfold orielref05_Named.f named
  by_cases h6 : x.f0 = 6
  · rw [if_pos h6, h6]; rfl
  · rw [if_neg h6]
    by_cases h7 : x.f0 = 7
    · rw [if_pos h7, h7]; rfl
    · rw [if_neg h7, show (x.f0 == 6) = false by simpa using h6, show (x.f0 == 7) = false by simpa using h7]
      rfl
theorem tok_at (l : List S51) (i : Nat) (h : i < l.length) : rd_T51 l (i : Int) = l[i] := by
  unfold rd_T51
  rw [Int.toNat_natCast, List.getD_eq_getElem?_getD, List.getElem?_eq_getElem h]
  rfl
theorem xnames_l (l : List S51) (hl : l.length ≤ 2000000) : ∀ (d i : Nat) (out : List S51), l.length - i = d → i ≤ l.length → out.length ≤ i →
    Ev (fun k => orielref05_Names.l0 k out l (i : Int)) (out ++ (l.drop i).filter named) := by
  intro d
  induction d with
  | zero =>
    intro i out hd hi ho
    rw [List.drop_of_length_le (by omega), List.filter_nil, List.append_nil]
    exact Ev.step (f := fun _ => some out) (fun k => by rw [orielref05_Names.l0, if_neg (by omega)]) (Ev.now _)
  | succ d ih =>
    intro i out hd hi ho
    have hlt : i < l.length := by omega
    rw [List.drop_eq_getElem_cons hlt, List.filter_cons]
    have base : ∀ k, orielref05_Names.l0 (k + 1) out l (i : Int) = if named l[i] = true then orielref05_Names.l0 k (out ++ [l[i]]) l ((i + 1 : Nat) : Int) else orielref05_Names.l0 k out l ((i + 1 : Nat) : Int) := by
      intro k
      rw [orielref05_Names.l0, if_pos (by omega), if_pos (by omega), tok_at l i hlt, named_f, Option.bind_some, wrap_nat i (by omega)]
      by_cases h : named l[i] = true
      · rw [if_pos h, if_pos h, if_pos (by omega)]
      · rw [if_neg h, if_neg h]
    by_cases h : named l[i] = true
    · rw [if_pos h]
      have := ih (i + 1) (out ++ [l[i]]) (by omega) (by omega) (by simp; omega)
      rw [List.append_assoc, List.singleton_append] at this
      exact Ev.step (f := fun k => orielref05_Names.l0 k (out ++ [l[i]]) l ((i + 1 : Nat) : Int)) (fun k => by rw [base, if_pos h]) this
    · rw [if_neg h]
      exact Ev.step (f := fun k => orielref05_Names.l0 k out l ((i + 1 : Nat) : Int)) (fun k => by rw [base, if_neg h]) (ih (i + 1) out (by omega) (by omega) (by omega))
end Go.Proofs.YtfccifekaokibaaGreatDoor.Rf

