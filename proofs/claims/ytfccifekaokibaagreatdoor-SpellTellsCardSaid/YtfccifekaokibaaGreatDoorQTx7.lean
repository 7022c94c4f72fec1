-- Laid by this claim's own program (mprint.py in the repo).
import Derived.Test.YtfccifekaokibaaGreatDoorQTx0
import Derived.Test.YtfccifekaokibaaGreatDoorQTx4
import Derived.Test.YtfccifekaokibaaGreatDoorQTx5
import Derived.Test.YtfccifekaokibaaGreatDoorQTx6
namespace Go.Proofs.YtfccifekaokibaaGreatDoor.QT
open Go.RowKit Go.Proofs.YtfccifekaokibaaGreatDoorW.PrintWords Go.Proofs.YtfccifekaokibaaGreatDoorW.PrintLast Go.Proofs.YtfccifekaokibaaGreatDoorW.PrintMore
attribute [local go_sem] max2_int min2_int max_two min_two max_three min_three max_four min_four   -- for this text's walks alone
set_option linter.unusedVariables false
set_option linter.unusedSimpArgs false

/-! ### lex_cursor_next: function 70 -/
def NS (w0 w W : World) (g : Nat) (s : ByteArray) (a : Int) : Prop := IsS82 w0 W g s a ∧ Below w0.heap.size w0 W ∧ KeepBut w W g none
theorem NS.dr {w0 w W : World} {g : Nat} {s : ByteArray} {a : Int} (h : NS w0 w W g s a) (m : Nat) : NS w0 w (W.drewN m) g s a := ⟨h.1, pw_below_drewN h.2.1 m, h.2.2⟩
theorem NS.below {w0 w W W1 : World} {g : Nat} {s : ByteArray} {a : Int} (h : NS w0 w W g s a) (hb : Below W.heap.size W W1) : NS w0 w W1 g s a :=
 ⟨h.1.below hb, below_weaken h.2.1 h.2.1.size hb, KeepBut.trans h.2.2 (KeepBut.of_below hb g none) (.inl rfl)⟩
theorem NS.call {w0 w W W1 : World} {g : Nat} {s s' : ByteArray} {a a' : Int} (h : NS w0 w W g s a) (hi : IsS82 w0 W1 g s' a') (hb : Below w0.heap.size w0 W1) (hk : KeepBut W W1 g none) : NS w0 w W1 g s' a' :=
 ⟨hi, hb, KeepBut.trans h.2.2 hk (.inl rfl)⟩
theorem NS.c0 {w0 w W : World} {g : Nat} {s : ByteArray} {a : Int} (h : NS w0 w W g s a) : W.cell? ⟨g, 0, none⟩ = some (.string s) := cellS82_0 h.1.1
theorem NS.c1 {w0 w W : World} {g : Nat} {s : ByteArray} {a : Int} (h : NS w0 w W g s a) : W.cell? ⟨g, 1, none⟩ = some (.int .i64 a) := cellS82_1 h.1.1
theorem quiet_d2 {P : Program} {f : FuncId} {args : Array Value} {w : World} {a n : Nat} {v : Value} (h : ∀ W : World, Calls P f args W fun e w' => e = .returned v ∧ Drawn0 W w') :
  Calls P f args (w.drewN (a + n)) fun e w'' => e = .returned v ∧ ∃ m, w'' = w.drewN (a + m) :=
 (h _).mono fun _ _ ⟨he, ⟨m, hm⟩⟩ => ⟨he, n + m, by rw [hm, World.drewN_drewN, Nat.add_assoc]⟩
def lex_cursor_next.tl (k : Nat) (s : ByteArray) (a e : Int) : Option (Int × Int × ByteArray × Int) :=
 if 0 ≤ a ∧ a ≤ e ∧ e ≤ (s.size : Int) then (name_Kind.f k (s.extract a.toNat e.toNat)).bind fun t => (if t = 0 then some (3, e, s, a) else some (t, e, s, a)) else none
def lex_cursor_next.f (k : Nat) (s0_0 : ByteArray) (s0_1 : Int) : Option (Int × Int × ByteArray × Int) :=
 if 0 ≤ s0_1 ∧ s0_1 < (s0_0.size : Int) then
  (lex_blank.f (bt s0_0 s0_1)).bind fun t => if t = true then (lex_cursor_run__lex_blank.f k s0_0 s0_1 s0_1).bind fun r => some (1, r.1, r.2.1, r.2.2)
  else (strings_HasPrefix.f (s0_0.extract s0_1.toNat s0_0.size) (⟨#[40, 42]⟩ : ByteArray)).bind fun t => if t = true then (lex_cursor_note.f k s0_0 s0_1).bind fun r => (if r.1 < 0 then some (3, (r.2.1.size : Int), r.2.1, r.2.2) else some (2, r.1, r.2.1, r.2.2))
  else if bt s0_0 s0_1 = 34 then (lex_cursor_text.f k s0_0 s0_1).bind fun r => (if r.1 < 0 then (lex_cursor_line.f k r.2.1 r.2.2).bind fun q => some (3, q.1, q.2.1, q.2.2) else some (5, r.1, r.2.1, r.2.2))
  else (lex_digit.f (bt s0_0 s0_1)).bind fun t => if t = true then (lex_cursor_run__lex_digit.f k s0_0 s0_1 s0_1).bind fun r => (lex_cursor_run__lex_rest.f k r.2.1 r.2.2 r.2.2).bind fun q => (if q.1 > r.1 then some (3, q.1, q.2.1, q.2.2) else some (4, q.1, q.2.1, q.2.2))
  else (lex_sign.f k (bt s0_0 s0_1)).bind fun t => if t = true then (lex_cursor_run__lex_sign.f k s0_0 s0_1 s0_1).bind fun r => lex_cursor_next.tl k r.2.1 r.2.2 r.1
  else (lex_rest.f k (bt s0_0 s0_1)).bind fun t => if t = true then (lex_cursor_run__lex_rest.f k s0_0 s0_1 s0_1).bind fun r => lex_cursor_next.tl k r.2.1 r.2.2 r.1
  else lex_cursor_next.tl k s0_0 s0_1 (wrap64 (s0_1 + 1))
 else none
theorem lex_cursor_next.mono : ∀ a0 a1 k, LeO (lex_cursor_next.f k a0 a1) (lex_cursor_next.f (k + 1) a0 a1) := by
 intro a0 a1 k
 unfold lex_cursor_next.f lex_cursor_next.tl
 repeat' first
   | (with_reducible exact LeO.refl _)
   | exact name_Kind.mono _ _
   | exact lex_cursor_run__lex_blank.mono _ _ _ _
   | exact lex_cursor_run__lex_digit.mono _ _ _ _
   | exact lex_cursor_run__lex_rest.mono _ _ _ _
   | exact lex_cursor_run__lex_sign.mono _ _ _ _
   | exact lex_cursor_note.mono _ _ _
   | exact lex_cursor_text.mono _ _ _
   | exact lex_cursor_line.mono _ _ _
   | exact lex_sign.mono _ _
   | exact lex_rest.mono _ _
   | (with_reducible refine LeO.ite ?_ ?_)
   | (with_reducible refine LeO.bind ?_ (fun _ => ?_))
set_option maxHeartbeats 4000000 in
set_option maxRecDepth 100000 in
theorem lex_cursor_next.calls (k : Nat) (g : Nat) (s0_0 : ByteArray) (s0_1 : Int) (r1 r2 : Int) (r3 : ByteArray) (r4 : Int) (w0 w : World) (hI : IsS82 w0 w g s0_0 s0_1) (hB : Below w0.heap.size w0 w) (h : lex_cursor_next.f k s0_0 s0_1 = some (r1, r2, r3, r4)) :
  Calls Tryz.prog 70 #[.pointer (some ⟨g, 0, none⟩)] w fun e w' => e = .returned (.tuple #[.int .i64 r1, .int .i64 r2]) ∧ IsS82 w0 w' g r3 r4 ∧ Below w0.heap.size w0 w' ∧ KeepBut w w' g none := by
 have N0 := Aside0.mk (show NS w0 w w g s0_0 s0_1 from ⟨hI, hB, KeepBut.refl _ _ _⟩)
 clear hI hB
 have H := h
 clear h
 unfold lex_cursor_next.f at H
 by_cases c1 : 0 ≤ s0_1 ∧ s0_1 < (s0_0.size : Int)
 ·rw [if_pos c1] at H
  obtain ⟨p1, q1⟩ := c1
  have hx := bt_at s0_0 s0_1
  have br_ := bt_range s0_0 s0_1
  obtain ⟨br1, br2⟩ := br_
  obtain ⟨b1, h_, H⟩ := Option.bind_eq_some_iff.mp H
  have HQ1 := Aside0.mk h_
  clear h_
  have c0_0 := N0.out.c0
  have c1_0 := N0.out.c1
  have HH := Aside0.mk H
  clear H
  go_enter Tryz.func70, Tryz.ntmps70
  go_wp2
  go_quiet (fail)
  clear hx
  go_wp2_with fail
  refine (lex_blank.calls _ b1 _ HQ1.out).mono ?_
  rintro e w' ⟨rfl, ⟨nd1, rfl⟩⟩
  have H := HH.out
  clear HH
  cases b1 with
  | true =>
   rw [if_pos rfl] at H
   obtain ⟨⟨r_1, r_2, r_3⟩, h_, H⟩ := Option.bind_eq_some_iff.mp H
   have HQ2 := Aside0.mk h_
   clear h_
   simp only [Option.some.injEq, Prod.mk.injEq] at H
   obtain ⟨rfl, rfl, rfl, rfl⟩ := H
   go_wp2_with fail
   refine (lex_cursor_run__lex_blank.calls k g s0_0 s0_1 s0_1 _ _ _ w0 _ ?si2 ?sb2 HQ2.out).mono ?_
   case si2 => exact (show NS w0 w _ g _ _ from by repeat (first | exact N0.out | apply NS.dr )).1
   case sb2 => exact (show NS w0 w _ g _ _ from by repeat (first | exact N0.out | apply NS.dr )).2.1
   rintro e W2 ⟨rfl, hi, hb, hk⟩
   have N2 := Aside0.mk (NS.call (w := w) (by repeat (first | exact N0.out | apply NS.dr )) hi hb hk)
   clear hi hb hk
   have c0_2 := N2.out.c0
   have c1_2 := N2.out.c1
   go_wp2
   go_ret2
   exact ⟨rfl, (show NS w0 w _ g _ _ from by repeat (exact N2.out)).1, (show NS w0 w _ g _ _ from by repeat (exact N2.out)).2.1, (show NS w0 w _ g _ _ from by repeat (exact N2.out)).2.2⟩
  | false =>
   rw [if_neg (by simp)] at H
   obtain ⟨b2, h_, H⟩ := Option.bind_eq_some_iff.mp H
   have HQ2 := Aside0.mk h_
   clear h_
   have HH := Aside0.mk H
   clear H
   go_wp2_with fail
   go_quiet (((go_at_call 94; exact quiet_d2 (fun W => strings_HasPrefix.calls _ _ b2 W HQ2.out))))
   have H := HH.out
   clear HH
   cases b2 with
   | true =>
    rw [if_pos rfl] at H
    obtain ⟨⟨r_1, r_2, r_3⟩, h_, H⟩ := Option.bind_eq_some_iff.mp H
    have HQ3 := Aside0.mk h_
    clear h_
    dsimp only at H
    by_cases ca : r_1 < 0
    ·rw [if_pos ca] at H
     have cab : decide (r_1 < 0) = true := decide_eq_true ca
     clear ca
     simp only [Option.some.injEq, Prod.mk.injEq] at H
     obtain ⟨rfl, rfl, rfl, rfl⟩ := H
     go_wp2_with fail
     refine (lex_cursor_note.calls k g s0_0 s0_1 _ _ _ w0 _ ?si3 ?sb3 HQ3.out).mono ?_
     case si3 => exact (show NS w0 w _ g _ _ from by repeat (first | exact N0.out | apply NS.dr )).1
     case sb3 => exact (show NS w0 w _ g _ _ from by repeat (first | exact N0.out | apply NS.dr )).2.1
     rintro e W3 ⟨rfl, hi, hb, hk⟩
     have N3 := Aside0.mk (NS.call (w := w) (by repeat (first | exact N0.out | apply NS.dr )) hi hb hk)
     clear hi hb hk
     have c0_3 := N3.out.c0
     have c1_3 := N3.out.c1
     go_wp2_with fail
     go_quiet (fail)
     go_wp2
     go_ret2
     exact ⟨rfl, (show NS w0 w _ g _ _ from by repeat (first | exact N3.out | apply NS.dr )).1, (show NS w0 w _ g _ _ from by repeat (first | exact N3.out | apply NS.dr )).2.1, (show NS w0 w _ g _ _ from by repeat (first | exact N3.out | apply NS.dr )).2.2⟩
    ·rw [if_neg ca] at H
     have cab : decide (r_1 < 0) = false := decide_eq_false ca
     clear ca
     simp only [Option.some.injEq, Prod.mk.injEq] at H
     obtain ⟨rfl, rfl, rfl, rfl⟩ := H
     go_wp2_with fail
     refine (lex_cursor_note.calls k g s0_0 s0_1 _ _ _ w0 _ ?si4 ?sb4 HQ3.out).mono ?_
     case si4 => exact (show NS w0 w _ g _ _ from by repeat (first | exact N0.out | apply NS.dr )).1
     case sb4 => exact (show NS w0 w _ g _ _ from by repeat (first | exact N0.out | apply NS.dr )).2.1
     rintro e W4 ⟨rfl, hi, hb, hk⟩
     have N4 := Aside0.mk (NS.call (w := w) (by repeat (first | exact N0.out | apply NS.dr )) hi hb hk)
     clear hi hb hk
     have c0_4 := N4.out.c0
     have c1_4 := N4.out.c1
     go_wp2
     go_ret2
     exact ⟨rfl, (show NS w0 w _ g _ _ from by repeat (exact N4.out)).1, (show NS w0 w _ g _ _ from by repeat (exact N4.out)).2.1, (show NS w0 w _ g _ _ from by repeat (exact N4.out)).2.2⟩
   | false =>
    rw [if_neg (by simp)] at H
    by_cases cb : bt s0_0 s0_1 = 34
    ·rw [if_pos cb] at H
     have cbb : (bt s0_0 s0_1 == 34) = true := beq_iff_eq.mpr cb
     clear cb
     obtain ⟨⟨r_1, r_2, r_3⟩, h_, H⟩ := Option.bind_eq_some_iff.mp H
     have HQ3 := Aside0.mk h_
     clear h_
     dsimp only at H
     by_cases ca : r_1 < 0
     ·rw [if_pos ca] at H
      have cab : decide (r_1 < 0) = true := decide_eq_true ca
      clear ca
      obtain ⟨⟨q_1, q_2, q_3⟩, h_, H⟩ := Option.bind_eq_some_iff.mp H
      have HQ4 := Aside0.mk h_
      clear h_
      simp only [Option.some.injEq, Prod.mk.injEq] at H
      obtain ⟨rfl, rfl, rfl, rfl⟩ := H
      go_wp2_with fail
      refine (lex_cursor_text.calls k g s0_0 s0_1 _ _ _ w0 _ ?si5 ?sb5 HQ3.out).mono ?_
      case si5 => exact (show NS w0 w _ g _ _ from by repeat (first | exact N0.out | apply NS.dr )).1
      case sb5 => exact (show NS w0 w _ g _ _ from by repeat (first | exact N0.out | apply NS.dr )).2.1
      rintro e W5 ⟨rfl, hi, hb, hk⟩
      have N5 := Aside0.mk (NS.call (w := w) (by repeat (first | exact N0.out | apply NS.dr )) hi hb hk)
      clear hi hb hk
      have c0_5 := N5.out.c0
      have c1_5 := N5.out.c1
      go_wp2_with fail
      refine (lex_cursor_line.calls k g _ _ _ _ _ w0 _ ?si6 ?sb6 HQ4.out).mono ?_
      case si6 => exact (show NS w0 w _ g _ _ from by repeat (exact N5.out)).1
      case sb6 => exact (show NS w0 w _ g _ _ from by repeat (exact N5.out)).2.1
      rintro e W6 ⟨rfl, hi, hb, hk⟩
      have N6 := Aside0.mk (NS.call (w := w) (by repeat (exact N5.out)) hi hb hk)
      clear hi hb hk
      have c0_6 := N6.out.c0
      have c1_6 := N6.out.c1
      go_wp2
      go_ret2
      exact ⟨rfl, (show NS w0 w _ g _ _ from by repeat (exact N6.out)).1, (show NS w0 w _ g _ _ from by repeat (exact N6.out)).2.1, (show NS w0 w _ g _ _ from by repeat (exact N6.out)).2.2⟩
     ·rw [if_neg ca] at H
      have cab : decide (r_1 < 0) = false := decide_eq_false ca
      clear ca
      simp only [Option.some.injEq, Prod.mk.injEq] at H
      obtain ⟨rfl, rfl, rfl, rfl⟩ := H
      go_wp2_with fail
      refine (lex_cursor_text.calls k g s0_0 s0_1 _ _ _ w0 _ ?si7 ?sb7 HQ3.out).mono ?_
      case si7 => exact (show NS w0 w _ g _ _ from by repeat (first | exact N0.out | apply NS.dr )).1
      case sb7 => exact (show NS w0 w _ g _ _ from by repeat (first | exact N0.out | apply NS.dr )).2.1
      rintro e W7 ⟨rfl, hi, hb, hk⟩
      have N7 := Aside0.mk (NS.call (w := w) (by repeat (first | exact N0.out | apply NS.dr )) hi hb hk)
      clear hi hb hk
      have c0_7 := N7.out.c0
      have c1_7 := N7.out.c1
      go_wp2
      go_ret2
      exact ⟨rfl, (show NS w0 w _ g _ _ from by repeat (exact N7.out)).1, (show NS w0 w _ g _ _ from by repeat (exact N7.out)).2.1, (show NS w0 w _ g _ _ from by repeat (exact N7.out)).2.2⟩
    ·rw [if_neg cb] at H
     have cbb : (bt s0_0 s0_1 == 34) = false := beq_eq_false_iff_ne.mpr cb
     clear cb
     obtain ⟨b3, h_, H⟩ := Option.bind_eq_some_iff.mp H
     have HQ3 := Aside0.mk h_
     clear h_
     go_wp2_with fail
     refine (lex_digit.calls _ b3 _ HQ3.out).mono ?_
     rintro e w' ⟨rfl, ⟨nd8, rfl⟩⟩
     cases b3 with
     | true =>
      rw [if_pos rfl] at H
      obtain ⟨⟨r_1, r_2, r_3⟩, h_, H⟩ := Option.bind_eq_some_iff.mp H
      have HQ4 := Aside0.mk h_
      clear h_
      obtain ⟨⟨q_1, q_2, q_3⟩, h_, H⟩ := Option.bind_eq_some_iff.mp H
      have HQ5 := Aside0.mk h_
      clear h_
      dsimp only at H HQ5
      by_cases ca : q_1 > r_1
      ·rw [if_pos ca] at H
       have cab : decide (r_1 < q_1) = true := decide_eq_true ca
       clear ca
       simp only [Option.some.injEq, Prod.mk.injEq] at H
       obtain ⟨rfl, rfl, rfl, rfl⟩ := H
       go_wp2_with fail
       refine (lex_cursor_run__lex_digit.calls k g s0_0 s0_1 s0_1 _ _ _ w0 _ ?si9 ?sb9 HQ4.out).mono ?_
       case si9 => exact (show NS w0 w _ g _ _ from by repeat (first | exact N0.out | apply NS.dr )).1
       case sb9 => exact (show NS w0 w _ g _ _ from by repeat (first | exact N0.out | apply NS.dr )).2.1
       rintro e W9 ⟨rfl, hi, hb, hk⟩
       have N9 := Aside0.mk (NS.call (w := w) (by repeat (first | exact N0.out | apply NS.dr )) hi hb hk)
       clear hi hb hk
       have c0_9 := N9.out.c0
       have c1_9 := N9.out.c1
       go_wp2_with fail
       refine (lex_cursor_run__lex_rest.calls k g _ _ _ _ _ _ w0 _ ?si10 ?sb10 HQ5.out).mono ?_
       case si10 => exact (show NS w0 w _ g _ _ from by repeat (exact N9.out)).1
       case sb10 => exact (show NS w0 w _ g _ _ from by repeat (exact N9.out)).2.1
       rintro e W10 ⟨rfl, hi, hb, hk⟩
       have N10 := Aside0.mk (NS.call (w := w) (by repeat (exact N9.out)) hi hb hk)
       clear hi hb hk
       have c0_10 := N10.out.c0
       have c1_10 := N10.out.c1
       go_wp2
       go_ret2
       exact ⟨rfl, (show NS w0 w _ g _ _ from by repeat (exact N10.out)).1, (show NS w0 w _ g _ _ from by repeat (exact N10.out)).2.1, (show NS w0 w _ g _ _ from by repeat (exact N10.out)).2.2⟩
      ·rw [if_neg ca] at H
       have cab : decide (r_1 < q_1) = false := decide_eq_false ca
       clear ca
       simp only [Option.some.injEq, Prod.mk.injEq] at H
       obtain ⟨rfl, rfl, rfl, rfl⟩ := H
       go_wp2_with fail
       refine (lex_cursor_run__lex_digit.calls k g s0_0 s0_1 s0_1 _ _ _ w0 _ ?si11 ?sb11 HQ4.out).mono ?_
       case si11 => exact (show NS w0 w _ g _ _ from by repeat (first | exact N0.out | apply NS.dr )).1
       case sb11 => exact (show NS w0 w _ g _ _ from by repeat (first | exact N0.out | apply NS.dr )).2.1
       rintro e W11 ⟨rfl, hi, hb, hk⟩
       have N11 := Aside0.mk (NS.call (w := w) (by repeat (first | exact N0.out | apply NS.dr )) hi hb hk)
       clear hi hb hk
       have c0_11 := N11.out.c0
       have c1_11 := N11.out.c1
       go_wp2_with fail
       refine (lex_cursor_run__lex_rest.calls k g _ _ _ _ _ _ w0 _ ?si12 ?sb12 HQ5.out).mono ?_
       case si12 => exact (show NS w0 w _ g _ _ from by repeat (exact N11.out)).1
       case sb12 => exact (show NS w0 w _ g _ _ from by repeat (exact N11.out)).2.1
       rintro e W12 ⟨rfl, hi, hb, hk⟩
       have N12 := Aside0.mk (NS.call (w := w) (by repeat (exact N11.out)) hi hb hk)
       clear hi hb hk
       have c0_12 := N12.out.c0
       have c1_12 := N12.out.c1
       go_wp2
       go_ret2
       exact ⟨rfl, (show NS w0 w _ g _ _ from by repeat (exact N12.out)).1, (show NS w0 w _ g _ _ from by repeat (exact N12.out)).2.1, (show NS w0 w _ g _ _ from by repeat (exact N12.out)).2.2⟩
     | false =>
      rw [if_neg (by simp)] at H
      obtain ⟨b4, h_, H⟩ := Option.bind_eq_some_iff.mp H
      have HQ4 := Aside0.mk h_
      clear h_
      go_wp2_with fail
      refine (lex_sign.calls k _ b4 _ HQ4.out).mono ?_
      rintro e W13 ⟨rfl, hb⟩
      have N13 := Aside0.mk (NS.below (w := w) (by repeat (first | exact N0.out | apply NS.dr )) hb)
      clear hb
      have c0_13 := N13.out.c0
      have c1_13 := N13.out.c1
      cases b4 with
      | true =>
       rw [if_pos rfl] at H
       obtain ⟨⟨r_1, r_2, r_3⟩, h_, H⟩ := Option.bind_eq_some_iff.mp H
       have HQ5 := Aside0.mk h_
       clear h_
       dsimp only at H
       go_wp2_with fail
       refine (lex_cursor_run__lex_sign.calls k g _ _ _ _ _ _ w0 _ ?si14 ?sb14 HQ5.out).mono ?_
       case si14 => exact (show NS w0 w _ g _ _ from by repeat (exact N13.out)).1
       case sb14 => exact (show NS w0 w _ g _ _ from by repeat (exact N13.out)).2.1
       rintro e W14 ⟨rfl, hi, hb, hk⟩
       have N14 := Aside0.mk (NS.call (w := w) (by repeat (exact N13.out)) hi hb hk)
       clear hi hb hk
       have c0_14 := N14.out.c0
       have c1_14 := N14.out.c1
       unfold lex_cursor_next.tl at H
       by_cases ct : 0 ≤ r_3 ∧ r_3 ≤ r_1 ∧ r_1 ≤ (r_2.size : Int)
       ·rw [if_pos ct] at H
        obtain ⟨ct1, ct2, ct3⟩ := ct
        obtain ⟨tt, h_, H⟩ := Option.bind_eq_some_iff.mp H
        have HT := Aside0.mk h_
        clear h_
        go_wp2_with fail
        go_still_tail 10, (by kernel_rfl)
        go_wp2_with fail
        refine (name_Kind.calls k _ tt _ HT.out).mono ?_
        rintro e W15 ⟨rfl, hb⟩
        have N15 := Aside0.mk (NS.below (w := w) (by repeat (first | exact N14.out | apply NS.dr )) hb)
        clear hb
        by_cases cz : tt = 0
        ·rw [if_pos cz] at H
         have czb : (tt == 0) = true := beq_iff_eq.mpr cz
         clear cz
         simp only [Option.some.injEq, Prod.mk.injEq] at H
         obtain ⟨rfl, rfl, rfl, rfl⟩ := H
         go_wp2
         go_ret2
         exact ⟨rfl, (show NS w0 w _ g _ _ from by repeat (exact N15.out)).1, (show NS w0 w _ g _ _ from by repeat (exact N15.out)).2.1, (show NS w0 w _ g _ _ from by repeat (exact N15.out)).2.2⟩
        ·rw [if_neg cz] at H
         have czb : (tt == 0) = false := beq_eq_false_iff_ne.mpr cz
         clear cz
         simp only [Option.some.injEq, Prod.mk.injEq] at H
         obtain ⟨rfl, rfl, rfl, rfl⟩ := H
         go_wp2
         go_ret2
         exact ⟨rfl, (show NS w0 w _ g _ _ from by repeat (exact N15.out)).1, (show NS w0 w _ g _ _ from by repeat (exact N15.out)).2.1, (show NS w0 w _ g _ _ from by repeat (exact N15.out)).2.2⟩
       ·rw [if_neg ct] at H
        cases H
      | false =>
       rw [if_neg (by simp)] at H
       obtain ⟨b5, h_, H⟩ := Option.bind_eq_some_iff.mp H
       have HQ5 := Aside0.mk h_
       clear h_
       go_wp2_with fail
       refine (lex_rest.calls k _ b5 _ HQ5.out).mono ?_
       rintro e W16 ⟨rfl, hb⟩
       have N16 := Aside0.mk (NS.below (w := w) (by repeat (exact N13.out)) hb)
       clear hb
       have c0_16 := N16.out.c0
       have c1_16 := N16.out.c1
       cases b5 with
       | true =>
        rw [if_pos rfl] at H
        obtain ⟨⟨r_1, r_2, r_3⟩, h_, H⟩ := Option.bind_eq_some_iff.mp H
        have HQ6 := Aside0.mk h_
        clear h_
        dsimp only at H
        go_wp2_with fail
        refine (lex_cursor_run__lex_rest.calls k g _ _ _ _ _ _ w0 _ ?si17 ?sb17 HQ6.out).mono ?_
        case si17 => exact (show NS w0 w _ g _ _ from by repeat (exact N16.out)).1
        case sb17 => exact (show NS w0 w _ g _ _ from by repeat (exact N16.out)).2.1
        rintro e W17 ⟨rfl, hi, hb, hk⟩
        have N17 := Aside0.mk (NS.call (w := w) (by repeat (exact N16.out)) hi hb hk)
        clear hi hb hk
        have c0_17 := N17.out.c0
        have c1_17 := N17.out.c1
        unfold lex_cursor_next.tl at H
        by_cases ct : 0 ≤ r_3 ∧ r_3 ≤ r_1 ∧ r_1 ≤ (r_2.size : Int)
        ·rw [if_pos ct] at H
         obtain ⟨ct1, ct2, ct3⟩ := ct
         obtain ⟨tt, h_, H⟩ := Option.bind_eq_some_iff.mp H
         have HT := Aside0.mk h_
         clear h_
         go_wp2_with fail
         go_still_tail 10, (by kernel_rfl)
         go_wp2_with fail
         refine (name_Kind.calls k _ tt _ HT.out).mono ?_
         rintro e W18 ⟨rfl, hb⟩
         have N18 := Aside0.mk (NS.below (w := w) (by repeat (first | exact N17.out | apply NS.dr )) hb)
         clear hb
         by_cases cz : tt = 0
         ·rw [if_pos cz] at H
          have czb : (tt == 0) = true := beq_iff_eq.mpr cz
          clear cz
          simp only [Option.some.injEq, Prod.mk.injEq] at H
          obtain ⟨rfl, rfl, rfl, rfl⟩ := H
          go_wp2
          go_ret2
          exact ⟨rfl, (show NS w0 w _ g _ _ from by repeat (exact N18.out)).1, (show NS w0 w _ g _ _ from by repeat (exact N18.out)).2.1, (show NS w0 w _ g _ _ from by repeat (exact N18.out)).2.2⟩
         ·rw [if_neg cz] at H
          have czb : (tt == 0) = false := beq_eq_false_iff_ne.mpr cz
          clear cz
          simp only [Option.some.injEq, Prod.mk.injEq] at H
          obtain ⟨rfl, rfl, rfl, rfl⟩ := H
          go_wp2
          go_ret2
          exact ⟨rfl, (show NS w0 w _ g _ _ from by repeat (exact N18.out)).1, (show NS w0 w _ g _ _ from by repeat (exact N18.out)).2.1, (show NS w0 w _ g _ _ from by repeat (exact N18.out)).2.2⟩
        ·rw [if_neg ct] at H
         cases H
       | false =>
        rw [if_neg (by simp)] at H
        unfold lex_cursor_next.tl at H
        by_cases ct : 0 ≤ s0_1 ∧ s0_1 ≤ (wrap64 (s0_1 + 1)) ∧ (wrap64 (s0_1 + 1)) ≤ (s0_0.size : Int)
        ·rw [if_pos ct] at H
         obtain ⟨ct1, ct2, ct3⟩ := ct
         obtain ⟨tt, h_, H⟩ := Option.bind_eq_some_iff.mp H
         have HT := Aside0.mk h_
         clear h_
         go_wp2_with fail
         go_still_tail 10, (by kernel_rfl)
         go_wp2_with fail
         refine (name_Kind.calls k _ tt _ HT.out).mono ?_
         rintro e W19 ⟨rfl, hb⟩
         have N19 := Aside0.mk (NS.below (w := w) (by repeat (first | exact N16.out | apply NS.dr )) hb)
         clear hb
         by_cases cz : tt = 0
         ·rw [if_pos cz] at H
          have czb : (tt == 0) = true := beq_iff_eq.mpr cz
          clear cz
          simp only [Option.some.injEq, Prod.mk.injEq] at H
          obtain ⟨rfl, rfl, rfl, rfl⟩ := H
          go_wp2
          go_ret2
          exact ⟨rfl, (show NS w0 w _ g _ _ from by repeat (exact N19.out)).1, (show NS w0 w _ g _ _ from by repeat (exact N19.out)).2.1, (show NS w0 w _ g _ _ from by repeat (exact N19.out)).2.2⟩
         ·rw [if_neg cz] at H
          have czb : (tt == 0) = false := beq_eq_false_iff_ne.mpr cz
          clear cz
          simp only [Option.some.injEq, Prod.mk.injEq] at H
          obtain ⟨rfl, rfl, rfl, rfl⟩ := H
          go_wp2
          go_ret2
          exact ⟨rfl, (show NS w0 w _ g _ _ from by repeat (exact N19.out)).1, (show NS w0 w _ g _ _ from by repeat (exact N19.out)).2.1, (show NS w0 w _ g _ _ from by repeat (exact N19.out)).2.2⟩
        ·rw [if_neg ct] at H
         cases H
 ·rw [if_neg c1] at H
  cases H

/-! ### lex_Scan: function 58 -/
def lex_Scan.l : Nat → ByteArray → ByteArray → Int → List S51 → Option (List S51)
 | 0, _, _, _, _ => none
 | k + 1, a0, s, at_, xs => if at_ < (a0.size : Int) then
   (lex_cursor_next.f k s at_).bind fun r => (if xs.length < 5864062014805 then lex_Scan.l k a0 r.2.2.1 r.2.1 (xs ++ [⟨r.1, r.2.2.2, r.2.1⟩]) else none)
  else if xs.length < 5864062014805 then some (xs ++ [⟨0, (a0.size : Int), (a0.size : Int)⟩]) else none
def lex_Scan.f (k : Nat) (a0 : ByteArray) : Option (List S51) := lex_Scan.l k a0 a0 0 []
theorem lex_Scan.mono_l : ∀ k, (∀ y0 y1 y2 y3, LeO (lex_Scan.l k y0 y1 y2 y3) (lex_Scan.l (k + 1) y0 y1 y2 y3))
 | 0 => fun _ _ _ _ r h => by simp [lex_Scan.l] at h
 | k + 1 => by
  have ih0 := lex_Scan.mono_l k
  intro y0 y1 y2 y3
  unfold lex_Scan.l
  repeat' first
   | (with_reducible exact ih0 _ _ _ _)
   | (with_reducible exact LeO.refl _)
   | exact lex_cursor_next.mono _ _ _
   | (with_reducible refine LeO.ite ?_ ?_)
   | (with_reducible refine LeO.bind ?_ (fun _ => ?_))
theorem lex_Scan.mono : ∀ a0 k, LeO (lex_Scan.f k a0) (lex_Scan.f (k + 1) a0) := by
 intro a0 k
 exact lex_Scan.mono_l k _ _ _ _
theorem lex_Scan.tok (w : World) (base : Nat) (ok : Nat → Prop) (a b c : Int) : Kd.M k51 w base ok ⟨a, b, c⟩ [.int .i64 a, .int .i64 b, .int .i64 c] := k51_mkM w base ok ⟨a, b, c⟩
theorem lex_Scan.info : (Tryz.prog.info? 51).map (fun i => (i.zero, i.size, i.bytes)) = some (some (.agg #[.int .i64 0, .int .i64 0, .int .i64 0]), 3, 24) := by kernel_rfl
set_option maxHeartbeats 4000000 in
set_option maxRecDepth 100000 in
theorem lex_Scan.calls (k : Nat) (a0 : ByteArray) (r : List S51) (w : World) (h : lex_Scan.f k a0 = some r) :
  Calls Tryz.prog 58 #[.string a0] w fun e w' => ∃ v0_ : Value, e = .returned (v0_) ∧ Kd.R k51 51 w' w.heap.size (fun _ => True) v0_ r ∧ Below w.heap.size w w' := by
 have H0 := Aside0.mk h
 clear h
 have hu1 := Tryz.underlying51
 have hu2 := Tryz.underlying82
 go_enter Tryz.func58, Tryz.ntmps58
 go_wp2
 go_loopg [3] k (fun kq v3 wr => ∃ (s : ByteArray) (at_ : Int) (xs : List S51), Aside0 (lex_Scan.l kq a0 s at_ xs = some r) ∧ Aside0 (Kd.R k51 51 wr w.heap.size (fun k_ => k_ ≠ w.heap.size) v3 xs) ∧ Aside0 (IsS82 w wr w.heap.size s at_) ∧ Aside0 (Below w.heap.size w wr))
 case atStart => exact ⟨a0, 0, [], H0, ⟨Kd.R_nil _ _ _ _ _⟩, ⟨IsS82.new w w a0 0 (Below.refl _ _)⟩, ⟨(Below.refl _ _).alloc (Nat.le_refl _) _⟩⟩
 case round =>
  clear H0
  obtain ⟨s, at_, xs, HA, HO, HI, HB⟩ := hrel
  cases gk with
  | zero => exact absurd HA.out (by simp [lex_Scan.l])
  | succ k1 =>
   have H := HA.out
   clear HA
   simp only [lex_Scan.l] at H
   have c1 := cellS82_1 HI.out.1
   by_cases ca : at_ < (a0.size : Int)
   ·rw [if_pos ca] at H
    have cab : decide (at_ < (a0.size : Int)) = true := decide_eq_true ca
    clear ca
    obtain ⟨⟨t1, t2, t3, t4⟩, h_, H⟩ := Option.bind_eq_some_iff.mp H
    have HN := Aside0.mk h_
    clear h_
    dsimp only at H
    by_cases cl : xs.length < 5864062014805
    ·rw [if_pos cl] at H
     have HX := Aside0.mk H
     have HL := Aside0.mk cl
     clear H cl
     go_wp2_with fail
     refine (lex_cursor_next.calls k1 w.heap.size s at_ t1 t2 t3 t4 w _ HI.out HB.out HN.out).mono ?_
     rintro e W1 ⟨rfl, hi, hb, hk⟩
     have HO1 := Aside0.mk (Kd.R_step HO.out (w1 := W1) (fun q hq hl => hk.2 q hl hq (by simp)))
     have HI1 := Aside0.mk hi
     have HB1 := Aside0.mk hb
     have d1 := cellS82_1 hi.1
     clear c1 hi hb hk
     go_wp2_with (at_builtin; refine Kd.R_append k51 (w0 := w) w.heap.size rfl _ _ 48 51 (.agg #[.int .i64 0, .int .i64 0, .int .i64 0]) 24 rfl Tryz.underlying48 lex_Scan.info rfl (by decide) (by decide) u3 xs ⟨t1, t4, t2⟩ [.int .i64 t1, .int .i64 t4, .int .i64 t2] (fun k_ => k_ ≠ w.heap.size) (fun _ => False) rfl rfl (lex_Scan.tok _ _ _ _ _ _) (fun _ h_ => h_.elim) ?hfr HO1.out HB1.out HB1.out.size ?hl ?hk)
     case hfr => intro q hq; have := HB1.out.size; have := HI1.out.1; have := HI1.out.lt; omega
     case hl => have := HL.out; omega
     case hk =>
      intro v1 w1 ho hb hg hat
      have hne : some w.heap.size ≠ u3.ownBlock := fun e_ => HO1.out.1 _ e_.symm rfl
      have HO2 := Aside0.mk ho
      have HI2 := Aside0.mk (IsS82.grown HI1.out hg hne)
      have HB2 := Aside0.mk hb
      have e1 := cellS82_1 HI2.out.1
      have f1 := blk_frozen HI2.out.1 1
      clear ho hb hg hat hne d1
      go_wp2
      go_roundg k1
      case measure => omega
      case rel => exact ⟨t3, t2, xs ++ [⟨t1, t4, t2⟩], HX, ⟨Kd.R_step HO2.out (fun q hq _ => Below.heap_setCell w1 ⟨w.heap.size, 1, none⟩ _ q hq)⟩, ⟨IsS82.set_1 HI2.out t2⟩, ⟨below_set HB2.out (Nat.le_refl _)⟩⟩
    ·rw [if_neg cl] at H
     cases H
   ·rw [if_neg ca] at H
    have cab : decide (at_ < (a0.size : Int)) = false := decide_eq_false ca
    clear ca
    by_cases cl : xs.length < 5864062014805
    ·rw [if_pos cl] at H
     obtain rfl := Option.some.inj H
     have HL := Aside0.mk cl
     clear H cl
     go_wp2_with (at_builtin; refine Kd.R_append k51 (w0 := w) w.heap.size rfl _ _ 48 51 (.agg #[.int .i64 0, .int .i64 0, .int .i64 0]) 24 rfl Tryz.underlying48 lex_Scan.info rfl (by decide) (by decide) u3 xs ⟨0, (a0.size : Int), (a0.size : Int)⟩ [.int .i64 0, .int .i64 (a0.size : Int), .int .i64 (a0.size : Int)] (fun k_ => k_ ≠ w.heap.size) (fun _ => False) rfl rfl (lex_Scan.tok _ _ _ _ _ _) (fun _ h_ => h_.elim) ?hfr HO.out HB.out HB.out.size ?hl ?hk)
     case hfr => intro q hq; have := HI.out.lt; omega
     case hl => have := HL.out; omega
     case hk =>
      intro v1 w1 ho hb hg hat
      have HO2 := Aside0.mk ho
      have HB2 := Aside0.mk hb
      clear ho hb hg hat c1
      go_wp2
      go_ret
      exact ⟨v1, rfl, Kd.R_mono HO2.out (fun _ _ => trivial), HB2.out⟩
    ·rw [if_neg cl] at H
     cases H

end Go.Proofs.YtfccifekaokibaaGreatDoor.QT

