-- Laid by this claim's own program (mprint.py in the repo).
import Derived.Test.YtfccifekaokibaaGreatDoorQTx0
namespace Go.Proofs.YtfccifekaokibaaGreatDoor.QT
open Go.RowKit Go.Proofs.YtfccifekaokibaaGreatDoorW.PrintWords Go.Proofs.YtfccifekaokibaaGreatDoorW.PrintLast Go.Proofs.YtfccifekaokibaaGreatDoorW.PrintMore
attribute [local go_sem] max2_int min2_int max_two min_two max_three min_three max_four min_four   -- for this text's walks alone
set_option linter.unusedVariables false
set_option linter.unusedSimpArgs false

/-! ### orielref05_note: function 72 -/
mutual
def orielref05_note.l0 : Nat → ByteArray → Int → Int → Option (Int)
 | 0, _, _, _ => none
 | k + 1, x0, x5, x6 => if (wrap64 (x6 + 1)) < (x0.size : Int) then (if 0 ≤ x6 then (if x6 < (x0.size : Int) then (if (bt x0 x6) = 40 then (if 0 ≤ (wrap64 (x6 + 1)) then (orielref05_note.j1 k x0 x5 x6 ((bt x0 (wrap64 (x6 + 1))) == 42)) else (none)) else (orielref05_note.j1 k x0 x5 x6 false)) else (none)) else (none)) else (some 0)
def orielref05_note.j1 : Nat → ByteArray → Int → Int → Bool → Option (Int)
 | 0, _, _, _, _ => none
 | k + 1, x0, x5, x6, x25 => if x25 = true then (orielref05_note.l0 k x0 (wrap64 (x5 + 1)) (wrap64 ((wrap64 (x6 + 1)) + 1))) else (if 0 ≤ x6 then (if x6 < (x0.size : Int) then (if (bt x0 x6) = 42 then (if 0 ≤ (wrap64 (x6 + 1)) then (if (wrap64 (x6 + 1)) < (x0.size : Int) then (orielref05_note.j2 k x0 x5 x6 ((bt x0 (wrap64 (x6 + 1))) == 41)) else (none)) else (none)) else (orielref05_note.j2 k x0 x5 x6 false)) else (none)) else (none))
def orielref05_note.j2 : Nat → ByteArray → Int → Int → Bool → Option (Int)
 | 0, _, _, _, _ => none
 | k + 1, x0, x5, x6, x40 => if x40 = true then (if (wrap64 (x5 - 1)) = 0 then (some (wrap64 ((wrap64 (x6 + 1)) + 1))) else (orielref05_note.l0 k x0 (wrap64 (x5 - 1)) (wrap64 ((wrap64 (x6 + 1)) + 1)))) else (orielref05_note.l0 k x0 x5 (wrap64 (x6 + 1)))
end
def orielref05_note.f (k : Nat) (a0 : ByteArray) (a1 : Int) : Option (Int) := orielref05_note.l0 k a0 0 a1
theorem orielref05_note.mono_l : ∀ k, (∀ y0 y1 y2, LeO (orielref05_note.l0 k y0 y1 y2) (orielref05_note.l0 (k + 1) y0 y1 y2)) ∧ (∀ y0 y1 y2 y3, LeO (orielref05_note.j1 k y0 y1 y2 y3) (orielref05_note.j1 (k + 1) y0 y1 y2 y3)) ∧ (∀ y0 y1 y2 y3, LeO (orielref05_note.j2 k y0 y1 y2 y3) (orielref05_note.j2 (k + 1) y0 y1 y2 y3))
 | 0 => ⟨fun _ _ _ r h => by simp [orielref05_note.l0] at h, fun _ _ _ _ r h => by simp [orielref05_note.j1] at h, fun _ _ _ _ r h => by simp [orielref05_note.j2] at h⟩
 | k + 1 => by
  obtain ⟨ih0, ih1, ih2⟩ := orielref05_note.mono_l k
  refine ⟨?_, ?_, ?_⟩
  ·intro y0 y1 y2
   unfold orielref05_note.l0
   repeat' first
   | (with_reducible exact ih1 _ _ _ _)
   | (with_reducible exact LeO.refl _)
   | (with_reducible refine LeO.ite ?_ ?_)
  ·intro y0 y1 y2 y3
   unfold orielref05_note.j1
   repeat' first
   | (with_reducible exact ih0 _ _ _)
   | (with_reducible exact ih2 _ _ _ _)
   | (with_reducible exact LeO.refl _)
   | (with_reducible refine LeO.ite ?_ ?_)
  ·intro y0 y1 y2 y3
   unfold orielref05_note.j2
   repeat' first
   | (with_reducible exact ih0 _ _ _)
   | (with_reducible exact LeO.refl _)
   | (with_reducible refine LeO.ite ?_ ?_)
theorem orielref05_note.mono : ∀ a0 a1 k, LeO (orielref05_note.f k a0 a1) (orielref05_note.f (k + 1) a0 a1) := by
 intro a0 a1 k
 obtain ⟨ih0, ih1, ih2⟩ := orielref05_note.mono_l k
 unfold orielref05_note.f
 repeat' with_reducible exact ih0 _ _ _
set_option maxHeartbeats 8000000 in
set_option maxRecDepth 100000 in
theorem orielref05_note.calls (k : Nat) (a0 : ByteArray) (a1 : Int) (r : Int) (w : World) (h : orielref05_note.f k a0 a1 = some r) :
  Calls Tryz.prog 72 #[.string a0, .int .i64 a1] w fun e w' => e = .returned (.int .i64 r) ∧ Drawn0 w w' := by
 have H : (orielref05_note.l0 k a0 0 a1) = some r := h
 clear h
 have H' := Aside0.mk H
 clear H
 go_enter Tryz.func72, Tryz.ntmps72
 go_wp2
 go_loopg [5, 6] k (fun kq v5 v6 w' => ∃ (x5_1 : Int) (x6_1 : Int), v5 = .int .i64 x5_1 ∧ v6 = .int .i64 x6_1 ∧ Aside0 (orielref05_note.l0 kq a0 x5_1 x6_1 = some r) ∧ Aside0 (kq ≤ k) ∧ Drawn0 w w')
 case atStart => exact ⟨(0), (a1), (by rfl), (by rfl), H', ⟨Nat.le_refl _⟩, by repeat (exact Drawn0.refl _)⟩
 case round =>
  clear H'
  obtain ⟨x5_1, x6_1, rfl, rfl, HA, HK1, ⟨m1, rfl⟩⟩ := hrel
  cases gk with
  | zero => exact absurd HA.out (by simp [orielref05_note.l0])
  | succ k1 =>
   have H := HA.out
   clear HA
   simp only [orielref05_note.l0] at H
   by_cases c3 : (wrap64 (x6_1 + 1)) < (a0.size : Int)
   ·rw [if_pos c3] at H
    have c3b0 : decide ((wrap64 (x6_1 + 1)) < (a0.size : Int)) = true := decide_eq_true c3
    clear c3
    have HC4 := Aside0.mk H
    clear H
    go_upto_region 5 with (fail)
    go_cut [25] (fun v25 wc => ∃ (kq : Nat) (x25_3 : Bool), v25 = .bool x25_3 ∧ Aside0 (orielref05_note.j1 kq a0 x5_1 x6_1 x25_3 = some r) ∧ Aside0 (kq ≤ k1) ∧ Drawn0 w wc)
    case first =>
     have H := HC4.out
     clear HC4
     by_cases c5 : 0 ≤ x6_1
     ·rw [if_pos c5] at H
      have c5b0 : decide (0 ≤ x6_1) = true := decide_eq_true c5
      clear c5
      (skip)
      by_cases c6 : x6_1 < (a0.size : Int)
      ·rw [if_pos c6] at H
       have c6b0 : decide (x6_1 < (a0.size : Int)) = true := decide_eq_true c6
       clear c6
       by_cases c8 : (bt a0 x6_1) = 40
       ·rw [if_pos c8] at H
        have c8b0 : ((bt a0 x6_1) == 40) = true := beq_iff_eq.mpr c8
        have c8b1 : ((bt a0 x6_1) != 40) = false := bne_eq_false_iff_eq.mpr c8
        clear c8
        obtain ⟨ji9, hji9⟩ : ∃ j_ : Int, (wrap64 (x6_1 + 1)) = j_ := ⟨_, rfl⟩
        replace H : (if 0 ≤ (ji9) then (orielref05_note.j1 k1 a0 x5_1 x6_1 ((bt a0 (ji9)) == 42)) else (none)) = some r := by (rw [hji9] at H; exact H)
        (try rw [hji9] at c3b0)
        have hji9w : (IntKind.i64.wrap (x6_1 + 1)) = ji9 := (i64_w _).trans hji9
        by_cases c10 : 0 ≤ (ji9)
        ·rw [if_pos c10] at H
         have c10b0 : decide (0 ≤ (ji9)) = true := decide_eq_true c10
         clear c10
         have H' := Aside0.mk H
         clear H
         have p7 : 0 ≤ (x6_1 : Int) := of_decide_eq_true (by with_reducible assumption)
         have q7 : x6_1 < (a0.size : Int) := of_decide_eq_true (by with_reducible assumption)
         have hx7 := bt_at a0 x6_1
         replace p7 := eq_true p7
         replace q7 := eq_true q7
         have p11 : 0 ≤ ((ji9) : Int) := of_decide_eq_true (by with_reducible assumption)
         have q11 : (ji9) < (a0.size : Int) := of_decide_eq_true (by with_reducible assumption)
         have hx11 := bt_at a0 (ji9)
         replace p11 := eq_true p11
         replace q11 := eq_true q11
         go_wp2
         go_meet
         case rel => exact ⟨_, (((bt a0 (ji9)) == 42)), (by rfl), H', ⟨by have := HK1.out; omega⟩, by repeat (first | exact Drawn0.refl _ | apply Drawn0.step)⟩
        ·rw [if_neg c10] at H
         exact absurd H (by simp)
       ·rw [if_neg c8] at H
        have c8b0 : ((bt a0 x6_1) == 40) = false := beq_eq_false_iff_ne.mpr c8
        have c8b1 : ((bt a0 x6_1) != 40) = true := bne_iff_ne.mpr c8
        have H' := Aside0.mk H
        clear H
        have p7 : 0 ≤ (x6_1 : Int) := of_decide_eq_true (by with_reducible assumption)
        have q7 : x6_1 < (a0.size : Int) := of_decide_eq_true (by with_reducible assumption)
        have hx7 := bt_at a0 x6_1
        replace p7 := eq_true p7
        replace q7 := eq_true q7
        go_wp2
        go_meet
        case rel => exact ⟨_, (false), (by rfl), H', ⟨by have := HK1.out; omega⟩, by repeat (first | exact Drawn0.refl _ | apply Drawn0.step)⟩
      ·rw [if_neg c6] at H
       exact absurd H (by simp)
     ·rw [if_neg c5] at H
      exact absurd H (by simp)
    case rest =>
     clear HC4
     clear c3b0
     obtain ⟨kq, x25_3, rfl, HA, HJ3, ⟨mc3, rfl⟩⟩ := hcut
     cases kq with
     | zero => exact absurd HA.out (by simp [orielref05_note.j1])
     | succ kj3 =>
      have H := HA.out
      clear HA
      simp only [orielref05_note.j1] at H
      by_cases c12 : x25_3 = true
      ·subst c12
       have H1 : (orielref05_note.l0 kj3 a0 (wrap64 (x5_1 + 1)) (wrap64 ((wrap64 (x6_1 + 1)) + 1))) = some r := by rw [if_pos rfl] at H; exact H
       clear H
       have H := H1
       clear H1
       have H' := Aside0.mk H
       clear H
       go_wp2
       go_roundg kj3
       case measure => have := HK1.out; have := HJ3.out; omega
       case rel => exact ⟨(wrap64 (x5_1 + 1)), (wrap64 ((wrap64 (x6_1 + 1)) + 1)), (by rfl), (by rfl), H', ⟨by have := HK1.out; have := HJ3.out; omega⟩, by repeat (first | exact Drawn0.refl _ | apply Drawn0.step)⟩
      ·replace c12 := Bool.eq_false_iff.mpr c12
       subst c12
       have H1 : (if 0 ≤ x6_1 then (if x6_1 < (a0.size : Int) then (if (bt a0 x6_1) = 42 then (if 0 ≤ (wrap64 (x6_1 + 1)) then (if (wrap64 (x6_1 + 1)) < (a0.size : Int) then (orielref05_note.j2 kj3 a0 x5_1 x6_1 ((bt a0 (wrap64 (x6_1 + 1))) == 41)) else (none)) else (none)) else (orielref05_note.j2 kj3 a0 x5_1 x6_1 false)) else (none)) else (none)) = some r := by rw [if_neg (show ¬ (false = true) by decide)] at H; exact H
       clear H
       have H := H1
       clear H1
       have HC13 := Aside0.mk H
       clear H
       go_upto_region 8 with (fail)
       go_cut [40] (fun v40 wc => ∃ (kq : Nat) (x40_12 : Bool), v40 = .bool x40_12 ∧ Aside0 (orielref05_note.j2 kq a0 x5_1 x6_1 x40_12 = some r) ∧ Aside0 (kq ≤ kj3) ∧ Drawn0 w wc)
       case first =>
        have H := HC13.out
        clear HC13
        by_cases c14 : 0 ≤ x6_1
        ·rw [if_pos c14] at H
         have c14b0 : decide (0 ≤ x6_1) = true := decide_eq_true c14
         clear c14
         (skip)
         by_cases c15 : x6_1 < (a0.size : Int)
         ·rw [if_pos c15] at H
          have c15b0 : decide (x6_1 < (a0.size : Int)) = true := decide_eq_true c15
          clear c15
          by_cases c17 : (bt a0 x6_1) = 42
          ·rw [if_pos c17] at H
           have c17b0 : ((bt a0 x6_1) == 42) = true := beq_iff_eq.mpr c17
           have c17b1 : ((bt a0 x6_1) != 42) = false := bne_eq_false_iff_eq.mpr c17
           clear c17
           obtain ⟨ji18, hji18⟩ : ∃ j_ : Int, (wrap64 (x6_1 + 1)) = j_ := ⟨_, rfl⟩
           replace H : (if 0 ≤ (ji18) then (if (ji18) < (a0.size : Int) then (orielref05_note.j2 kj3 a0 x5_1 x6_1 ((bt a0 (ji18)) == 41)) else (none)) else (none)) = some r := by (rw [hji18] at H; exact H)
           (try rw [hji18] at c3b0)
           have hji18w : (IntKind.i64.wrap (x6_1 + 1)) = ji18 := (i64_w _).trans hji18
           by_cases c19 : 0 ≤ (ji18)
           ·rw [if_pos c19] at H
            have c19b0 : decide (0 ≤ (ji18)) = true := decide_eq_true c19
            clear c19
            by_cases c20 : (ji18) < (a0.size : Int)
            ·rw [if_pos c20] at H
             have c20b0 : decide ((ji18) < (a0.size : Int)) = true := decide_eq_true c20
             clear c20
             have H' := Aside0.mk H
             clear H
             have p16 : 0 ≤ (x6_1 : Int) := of_decide_eq_true (by with_reducible assumption)
             have q16 : x6_1 < (a0.size : Int) := of_decide_eq_true (by with_reducible assumption)
             have hx16 := bt_at a0 x6_1
             replace p16 := eq_true p16
             replace q16 := eq_true q16
             have p21 : 0 ≤ ((ji18) : Int) := of_decide_eq_true (by with_reducible assumption)
             have q21 : (ji18) < (a0.size : Int) := of_decide_eq_true (by with_reducible assumption)
             have hx21 := bt_at a0 (ji18)
             replace p21 := eq_true p21
             replace q21 := eq_true q21
             go_wp2
             go_meet
             case rel => exact ⟨_, (((bt a0 (ji18)) == 41)), (by rfl), H', ⟨by have := HK1.out; have := HJ3.out; omega⟩, by repeat (first | exact Drawn0.refl _ | apply Drawn0.step)⟩
            ·rw [if_neg c20] at H
             exact absurd H (by simp)
           ·rw [if_neg c19] at H
            exact absurd H (by simp)
          ·rw [if_neg c17] at H
           have c17b0 : ((bt a0 x6_1) == 42) = false := beq_eq_false_iff_ne.mpr c17
           have c17b1 : ((bt a0 x6_1) != 42) = true := bne_iff_ne.mpr c17
           have H' := Aside0.mk H
           clear H
           have p16 : 0 ≤ (x6_1 : Int) := of_decide_eq_true (by with_reducible assumption)
           have q16 : x6_1 < (a0.size : Int) := of_decide_eq_true (by with_reducible assumption)
           have hx16 := bt_at a0 x6_1
           replace p16 := eq_true p16
           replace q16 := eq_true q16
           go_wp2
           go_meet
           case rel => exact ⟨_, (false), (by rfl), H', ⟨by have := HK1.out; have := HJ3.out; omega⟩, by repeat (first | exact Drawn0.refl _ | apply Drawn0.step)⟩
         ·rw [if_neg c15] at H
          exact absurd H (by simp)
        ·rw [if_neg c14] at H
         exact absurd H (by simp)
       case rest =>
        clear HC13
        obtain ⟨kq, x40_12, rfl, HA, HJ12, ⟨mc12, rfl⟩⟩ := hcut
        cases kq with
        | zero => exact absurd HA.out (by simp [orielref05_note.j2])
        | succ kj12 =>
         have H := HA.out
         clear HA
         simp only [orielref05_note.j2] at H
         by_cases c22 : x40_12 = true
         ·subst c22
          have H1 : (if (wrap64 (x5_1 - 1)) = 0 then (some (wrap64 ((wrap64 (x6_1 + 1)) + 1))) else (orielref05_note.l0 kj12 a0 (wrap64 (x5_1 - 1)) (wrap64 ((wrap64 (x6_1 + 1)) + 1)))) = some r := by rw [if_pos rfl] at H; exact H
          clear H
          have H := H1
          clear H1
          by_cases c23 : (wrap64 (x5_1 - 1)) = 0
          ·rw [if_pos c23] at H
           have c23b0 : ((wrap64 (x5_1 - 1)) == 0) = true := beq_iff_eq.mpr c23
           have c23b1 : ((wrap64 (x5_1 - 1)) != 0) = false := bne_eq_false_iff_eq.mpr c23
           clear c23
           obtain rfl := Option.some.inj H
           go_wp2
           go_ret
           exact ⟨by rfl, by repeat (first | exact Drawn0.refl _ | apply Drawn0.step)⟩
          ·rw [if_neg c23] at H
           have c23b0 : ((wrap64 (x5_1 - 1)) == 0) = false := beq_eq_false_iff_ne.mpr c23
           have c23b1 : ((wrap64 (x5_1 - 1)) != 0) = true := bne_iff_ne.mpr c23
           have H' := Aside0.mk H
           clear H
           go_wp2
           go_roundg kj12
           case measure => have := HK1.out; have := HJ3.out; have := HJ12.out; omega
           case rel => exact ⟨(wrap64 (x5_1 - 1)), (wrap64 ((wrap64 (x6_1 + 1)) + 1)), (by rfl), (by rfl), H', ⟨by have := HK1.out; have := HJ3.out; have := HJ12.out; omega⟩, by repeat (first | exact Drawn0.refl _ | apply Drawn0.step)⟩
         ·replace c22 := Bool.eq_false_iff.mpr c22
          subst c22
          have H1 : (orielref05_note.l0 kj12 a0 x5_1 (wrap64 (x6_1 + 1))) = some r := by rw [if_neg (show ¬ (false = true) by decide)] at H; exact H
          clear H
          have H := H1
          clear H1
          have H' := Aside0.mk H
          clear H
          go_wp2
          go_roundg kj12
          case measure => have := HK1.out; have := HJ3.out; have := HJ12.out; omega
          case rel => exact ⟨(x5_1), (wrap64 (x6_1 + 1)), (by rfl), (by rfl), H', ⟨by have := HK1.out; have := HJ3.out; have := HJ12.out; omega⟩, by repeat (first | exact Drawn0.refl _ | apply Drawn0.step)⟩
   ·rw [if_neg c3] at H
    have c3b0 : decide ((wrap64 (x6_1 + 1)) < (a0.size : Int)) = false := decide_eq_false c3
    clear c3
    obtain rfl := Option.some.inj H
    go_wp2
    go_ret
    exact ⟨by rfl, by repeat (first | exact Drawn0.refl _ | apply Drawn0.step)⟩

/-! ### orielref05_text: function 73 -/
def orielref05_text.l0 : Nat → ByteArray → Int → Option (Int)
 | 0, _, _ => none
 | k + 1, x0, x5 => if x5 < (x0.size : Int) then (if 0 ≤ x5 then (if (bt x0 x5) = 34 then (some (wrap64 (x5 + 1))) else (if (bt x0 x5) = 10 then (some 0) else (if (bt x0 x5) = 92 then (if (wrap64 (x5 + 1)) ≥ (x0.size : Int) then (some 0) else (if 0 ≤ (wrap64 (x5 + 1)) then (if (wrap64 (x5 + 1)) < (x0.size : Int) then (if (bt x0 (wrap64 (x5 + 1))) = 34 then (orielref05_text.l0 k x0 (wrap64 ((wrap64 (x5 + 1)) + 1))) else (if (bt x0 (wrap64 (x5 + 1))) = 92 then (orielref05_text.l0 k x0 (wrap64 ((wrap64 (x5 + 1)) + 1))) else (if (bt x0 (wrap64 (x5 + 1))) = 110 then (orielref05_text.l0 k x0 (wrap64 ((wrap64 (x5 + 1)) + 1))) else (if (bt x0 (wrap64 (x5 + 1))) = 116 then (orielref05_text.l0 k x0 (wrap64 ((wrap64 (x5 + 1)) + 1))) else (some 0))))) else (none)) else (none))) else (orielref05_text.l0 k x0 (wrap64 (x5 + 1)))))) else (none)) else (some 0)
def orielref05_text.f (k : Nat) (a0 : ByteArray) (a1 : Int) : Option (Int) := orielref05_text.l0 k a0 (wrap64 (a1 + 1))
theorem orielref05_text.mono_l : ∀ k, (∀ y0 y1, LeO (orielref05_text.l0 k y0 y1) (orielref05_text.l0 (k + 1) y0 y1))
 | 0 => fun _ _ r h => by simp [orielref05_text.l0] at h
 | k + 1 => by
  have ih0 := orielref05_text.mono_l k
  ·intro y0 y1
   unfold orielref05_text.l0
   repeat' first
   | (with_reducible exact ih0 _ _)
   | (with_reducible exact LeO.refl _)
   | (with_reducible refine LeO.ite ?_ ?_)
theorem orielref05_text.mono : ∀ a0 a1 k, LeO (orielref05_text.f k a0 a1) (orielref05_text.f (k + 1) a0 a1) := by
 intro a0 a1 k
 have ih0 := orielref05_text.mono_l k
 unfold orielref05_text.f
 repeat' with_reducible exact ih0 _ _
set_option maxHeartbeats 8000000 in
set_option maxRecDepth 100000 in
theorem orielref05_text.calls (k : Nat) (a0 : ByteArray) (a1 : Int) (r : Int) (w : World) (h : orielref05_text.f k a0 a1 = some r) :
  Calls Tryz.prog 73 #[.string a0, .int .i64 a1] w fun e w' => e = .returned (.int .i64 r) ∧ Drawn0 w w' := by
 have H : (orielref05_text.l0 k a0 (wrap64 (a1 + 1))) = some r := h
 clear h
 have H' := Aside0.mk H
 clear H
 go_enter Tryz.func73, Tryz.ntmps73
 go_wp2
 go_loopg [5] k (fun kq v5 w' => ∃ (x5_1 : Int), v5 = .int .i64 x5_1 ∧ Aside0 (orielref05_text.l0 kq a0 x5_1 = some r) ∧ Aside0 (kq ≤ k) ∧ Drawn0 w w')
 case atStart => exact ⟨(wrap64 (a1 + 1)), (by rfl), H', ⟨Nat.le_refl _⟩, by repeat (exact Drawn0.refl _)⟩
 case round =>
  clear H'
  obtain ⟨x5_1, rfl, HA, HK1, ⟨m1, rfl⟩⟩ := hrel
  cases gk with
  | zero => exact absurd HA.out (by simp [orielref05_text.l0])
  | succ k1 =>
   have H := HA.out
   clear HA
   simp only [orielref05_text.l0] at H
   by_cases c3 : x5_1 < (a0.size : Int)
   ·rw [if_pos c3] at H
    have c3b0 : decide (x5_1 < (a0.size : Int)) = true := decide_eq_true c3
    clear c3
    by_cases c4 : 0 ≤ x5_1
    ·rw [if_pos c4] at H
     have c4b0 : decide (0 ≤ x5_1) = true := decide_eq_true c4
     clear c4
     by_cases c6 : (bt a0 x5_1) = 34
     ·rw [if_pos c6] at H
      have c6b0 : ((bt a0 x5_1) == 34) = true := beq_iff_eq.mpr c6
      have c6b1 : ((bt a0 x5_1) != 34) = false := bne_eq_false_iff_eq.mpr c6
      clear c6
      obtain rfl := Option.some.inj H
      have p5 : 0 ≤ (x5_1 : Int) := of_decide_eq_true (by with_reducible assumption)
      have q5 : x5_1 < (a0.size : Int) := of_decide_eq_true (by with_reducible assumption)
      have hx5 := bt_at a0 x5_1
      replace p5 := eq_true p5
      replace q5 := eq_true q5
      go_wp2
      go_ret
      exact ⟨by rfl, by repeat (first | exact Drawn0.refl _ | apply Drawn0.step)⟩
     ·rw [if_neg c6] at H
      have c6b0 : ((bt a0 x5_1) == 34) = false := beq_eq_false_iff_ne.mpr c6
      have c6b1 : ((bt a0 x5_1) != 34) = true := bne_iff_ne.mpr c6
      by_cases c8 : (bt a0 x5_1) = 10
      ·rw [if_pos c8] at H
       have c8b0 : ((bt a0 x5_1) == 10) = true := beq_iff_eq.mpr c8
       have c8b1 : ((bt a0 x5_1) != 10) = false := bne_eq_false_iff_eq.mpr c8
       clear c8
       obtain rfl := Option.some.inj H
       have p5 : 0 ≤ (x5_1 : Int) := of_decide_eq_true (by with_reducible assumption)
       have q5 : x5_1 < (a0.size : Int) := of_decide_eq_true (by with_reducible assumption)
       have hx5 := bt_at a0 x5_1
       replace p5 := eq_true p5
       replace q5 := eq_true q5
       have p7 : 0 ≤ (x5_1 : Int) := of_decide_eq_true (by with_reducible assumption)
       have q7 : x5_1 < (a0.size : Int) := of_decide_eq_true (by with_reducible assumption)
       have hx7 := bt_at a0 x5_1
       replace p7 := eq_true p7
       replace q7 := eq_true q7
       go_wp2
       go_ret
       exact ⟨by rfl, by repeat (first | exact Drawn0.refl _ | apply Drawn0.step)⟩
      ·rw [if_neg c8] at H
       have c8b0 : ((bt a0 x5_1) == 10) = false := beq_eq_false_iff_ne.mpr c8
       have c8b1 : ((bt a0 x5_1) != 10) = true := bne_iff_ne.mpr c8
       by_cases c10 : (bt a0 x5_1) = 92
       ·rw [if_pos c10] at H
        have c10b0 : ((bt a0 x5_1) == 92) = true := beq_iff_eq.mpr c10
        have c10b1 : ((bt a0 x5_1) != 92) = false := bne_eq_false_iff_eq.mpr c10
        clear c10
        by_cases c11 : (wrap64 (x5_1 + 1)) ≥ (a0.size : Int)
        ·rw [if_pos c11] at H
         have c11b0 : decide ((a0.size : Int) ≤ (wrap64 (x5_1 + 1))) = true := decide_eq_true c11
         clear c11
         obtain rfl := Option.some.inj H
         have p5 : 0 ≤ (x5_1 : Int) := of_decide_eq_true (by with_reducible assumption)
         have q5 : x5_1 < (a0.size : Int) := of_decide_eq_true (by with_reducible assumption)
         have hx5 := bt_at a0 x5_1
         replace p5 := eq_true p5
         replace q5 := eq_true q5
         have p7 : 0 ≤ (x5_1 : Int) := of_decide_eq_true (by with_reducible assumption)
         have q7 : x5_1 < (a0.size : Int) := of_decide_eq_true (by with_reducible assumption)
         have hx7 := bt_at a0 x5_1
         replace p7 := eq_true p7
         replace q7 := eq_true q7
         have p9 : 0 ≤ (x5_1 : Int) := of_decide_eq_true (by with_reducible assumption)
         have q9 : x5_1 < (a0.size : Int) := of_decide_eq_true (by with_reducible assumption)
         have hx9 := bt_at a0 x5_1
         replace p9 := eq_true p9
         replace q9 := eq_true q9
         go_wp2
         go_ret
         exact ⟨by rfl, by repeat (first | exact Drawn0.refl _ | apply Drawn0.step)⟩
        ·rw [if_neg c11] at H
         have c11b0 : decide ((a0.size : Int) ≤ (wrap64 (x5_1 + 1))) = false := decide_eq_false c11
         clear c11
         obtain ⟨ji12, hji12⟩ : ∃ j_ : Int, (wrap64 (x5_1 + 1)) = j_ := ⟨_, rfl⟩
         replace H : (if 0 ≤ (ji12) then (if (ji12) < (a0.size : Int) then (if (bt a0 (ji12)) = 34 then (orielref05_text.l0 k1 a0 (wrap64 ((ji12) + 1))) else (if (bt a0 (ji12)) = 92 then (orielref05_text.l0 k1 a0 (wrap64 ((ji12) + 1))) else (if (bt a0 (ji12)) = 110 then (orielref05_text.l0 k1 a0 (wrap64 ((ji12) + 1))) else (if (bt a0 (ji12)) = 116 then (orielref05_text.l0 k1 a0 (wrap64 ((ji12) + 1))) else (some 0))))) else (none)) else (none)) = some r := by (rw [hji12] at H; exact H)
         (try rw [hji12] at c11b0)
         have hji12w : (IntKind.i64.wrap (x5_1 + 1)) = ji12 := (i64_w _).trans hji12
         by_cases c13 : 0 ≤ (ji12)
         ·rw [if_pos c13] at H
          have c13b0 : decide (0 ≤ (ji12)) = true := decide_eq_true c13
          clear c13
          by_cases c14 : (ji12) < (a0.size : Int)
          ·rw [if_pos c14] at H
           have c14b0 : decide ((ji12) < (a0.size : Int)) = true := decide_eq_true c14
           clear c14
           by_cases c16 : (bt a0 (ji12)) = 34
           ·rw [if_pos c16] at H
            have c16b0 : ((bt a0 (ji12)) == 34) = true := beq_iff_eq.mpr c16
            have c16b1 : ((bt a0 (ji12)) != 34) = false := bne_eq_false_iff_eq.mpr c16
            clear c16
            have H' := Aside0.mk H
            clear H
            have p5 : 0 ≤ (x5_1 : Int) := of_decide_eq_true (by with_reducible assumption)
            have q5 : x5_1 < (a0.size : Int) := of_decide_eq_true (by with_reducible assumption)
            have hx5 := bt_at a0 x5_1
            replace p5 := eq_true p5
            replace q5 := eq_true q5
            have p7 : 0 ≤ (x5_1 : Int) := of_decide_eq_true (by with_reducible assumption)
            have q7 : x5_1 < (a0.size : Int) := of_decide_eq_true (by with_reducible assumption)
            have hx7 := bt_at a0 x5_1
            replace p7 := eq_true p7
            replace q7 := eq_true q7
            have p9 : 0 ≤ (x5_1 : Int) := of_decide_eq_true (by with_reducible assumption)
            have q9 : x5_1 < (a0.size : Int) := of_decide_eq_true (by with_reducible assumption)
            have hx9 := bt_at a0 x5_1
            replace p9 := eq_true p9
            replace q9 := eq_true q9
            have p15 : 0 ≤ ((ji12) : Int) := of_decide_eq_true (by with_reducible assumption)
            have q15 : (ji12) < (a0.size : Int) := of_decide_eq_true (by with_reducible assumption)
            have hx15 := bt_at a0 (ji12)
            replace p15 := eq_true p15
            replace q15 := eq_true q15
            go_wp2
            go_roundg k1
            case measure => have := HK1.out; omega
            case rel => exact ⟨(wrap64 ((ji12) + 1)), (by rfl), H', ⟨by have := HK1.out; omega⟩, by repeat (first | exact Drawn0.refl _ | apply Drawn0.step)⟩
           ·rw [if_neg c16] at H
            have c16b0 : ((bt a0 (ji12)) == 34) = false := beq_eq_false_iff_ne.mpr c16
            have c16b1 : ((bt a0 (ji12)) != 34) = true := bne_iff_ne.mpr c16
            by_cases c18 : (bt a0 (ji12)) = 92
            ·rw [if_pos c18] at H
             have c18b0 : ((bt a0 (ji12)) == 92) = true := beq_iff_eq.mpr c18
             have c18b1 : ((bt a0 (ji12)) != 92) = false := bne_eq_false_iff_eq.mpr c18
             clear c18
             have H' := Aside0.mk H
             clear H
             have p5 : 0 ≤ (x5_1 : Int) := of_decide_eq_true (by with_reducible assumption)
             have q5 : x5_1 < (a0.size : Int) := of_decide_eq_true (by with_reducible assumption)
             have hx5 := bt_at a0 x5_1
             replace p5 := eq_true p5
             replace q5 := eq_true q5
             have p7 : 0 ≤ (x5_1 : Int) := of_decide_eq_true (by with_reducible assumption)
             have q7 : x5_1 < (a0.size : Int) := of_decide_eq_true (by with_reducible assumption)
             have hx7 := bt_at a0 x5_1
             replace p7 := eq_true p7
             replace q7 := eq_true q7
             have p9 : 0 ≤ (x5_1 : Int) := of_decide_eq_true (by with_reducible assumption)
             have q9 : x5_1 < (a0.size : Int) := of_decide_eq_true (by with_reducible assumption)
             have hx9 := bt_at a0 x5_1
             replace p9 := eq_true p9
             replace q9 := eq_true q9
             have p15 : 0 ≤ ((ji12) : Int) := of_decide_eq_true (by with_reducible assumption)
             have q15 : (ji12) < (a0.size : Int) := of_decide_eq_true (by with_reducible assumption)
             have hx15 := bt_at a0 (ji12)
             replace p15 := eq_true p15
             replace q15 := eq_true q15
             have p17 : 0 ≤ ((ji12) : Int) := of_decide_eq_true (by with_reducible assumption)
             have q17 : (ji12) < (a0.size : Int) := of_decide_eq_true (by with_reducible assumption)
             have hx17 := bt_at a0 (ji12)
             replace p17 := eq_true p17
             replace q17 := eq_true q17
             go_wp2
             go_roundg k1
             case measure => have := HK1.out; omega
             case rel => exact ⟨(wrap64 ((ji12) + 1)), (by rfl), H', ⟨by have := HK1.out; omega⟩, by repeat (first | exact Drawn0.refl _ | apply Drawn0.step)⟩
            ·rw [if_neg c18] at H
             have c18b0 : ((bt a0 (ji12)) == 92) = false := beq_eq_false_iff_ne.mpr c18
             have c18b1 : ((bt a0 (ji12)) != 92) = true := bne_iff_ne.mpr c18
             by_cases c20 : (bt a0 (ji12)) = 110
             ·rw [if_pos c20] at H
              have c20b0 : ((bt a0 (ji12)) == 110) = true := beq_iff_eq.mpr c20
              have c20b1 : ((bt a0 (ji12)) != 110) = false := bne_eq_false_iff_eq.mpr c20
              clear c20
              have H' := Aside0.mk H
              clear H
              have p5 : 0 ≤ (x5_1 : Int) := of_decide_eq_true (by with_reducible assumption)
              have q5 : x5_1 < (a0.size : Int) := of_decide_eq_true (by with_reducible assumption)
              have hx5 := bt_at a0 x5_1
              replace p5 := eq_true p5
              replace q5 := eq_true q5
              have p7 : 0 ≤ (x5_1 : Int) := of_decide_eq_true (by with_reducible assumption)
              have q7 : x5_1 < (a0.size : Int) := of_decide_eq_true (by with_reducible assumption)
              have hx7 := bt_at a0 x5_1
              replace p7 := eq_true p7
              replace q7 := eq_true q7
              have p9 : 0 ≤ (x5_1 : Int) := of_decide_eq_true (by with_reducible assumption)
              have q9 : x5_1 < (a0.size : Int) := of_decide_eq_true (by with_reducible assumption)
              have hx9 := bt_at a0 x5_1
              replace p9 := eq_true p9
              replace q9 := eq_true q9
              have p15 : 0 ≤ ((ji12) : Int) := of_decide_eq_true (by with_reducible assumption)
              have q15 : (ji12) < (a0.size : Int) := of_decide_eq_true (by with_reducible assumption)
              have hx15 := bt_at a0 (ji12)
              replace p15 := eq_true p15
              replace q15 := eq_true q15
              have p17 : 0 ≤ ((ji12) : Int) := of_decide_eq_true (by with_reducible assumption)
              have q17 : (ji12) < (a0.size : Int) := of_decide_eq_true (by with_reducible assumption)
              have hx17 := bt_at a0 (ji12)
              replace p17 := eq_true p17
              replace q17 := eq_true q17
              have p19 : 0 ≤ ((ji12) : Int) := of_decide_eq_true (by with_reducible assumption)
              have q19 : (ji12) < (a0.size : Int) := of_decide_eq_true (by with_reducible assumption)
              have hx19 := bt_at a0 (ji12)
              replace p19 := eq_true p19
              replace q19 := eq_true q19
              go_wp2
              go_roundg k1
              case measure => have := HK1.out; omega
              case rel => exact ⟨(wrap64 ((ji12) + 1)), (by rfl), H', ⟨by have := HK1.out; omega⟩, by repeat (first | exact Drawn0.refl _ | apply Drawn0.step)⟩
             ·rw [if_neg c20] at H
              have c20b0 : ((bt a0 (ji12)) == 110) = false := beq_eq_false_iff_ne.mpr c20
              have c20b1 : ((bt a0 (ji12)) != 110) = true := bne_iff_ne.mpr c20
              by_cases c22 : (bt a0 (ji12)) = 116
              ·rw [if_pos c22] at H
               have c22b0 : ((bt a0 (ji12)) == 116) = true := beq_iff_eq.mpr c22
               have c22b1 : ((bt a0 (ji12)) != 116) = false := bne_eq_false_iff_eq.mpr c22
               clear c22
               have H' := Aside0.mk H
               clear H
               have p5 : 0 ≤ (x5_1 : Int) := of_decide_eq_true (by with_reducible assumption)
               have q5 : x5_1 < (a0.size : Int) := of_decide_eq_true (by with_reducible assumption)
               have hx5 := bt_at a0 x5_1
               replace p5 := eq_true p5
               replace q5 := eq_true q5
               have p7 : 0 ≤ (x5_1 : Int) := of_decide_eq_true (by with_reducible assumption)
               have q7 : x5_1 < (a0.size : Int) := of_decide_eq_true (by with_reducible assumption)
               have hx7 := bt_at a0 x5_1
               replace p7 := eq_true p7
               replace q7 := eq_true q7
               have p9 : 0 ≤ (x5_1 : Int) := of_decide_eq_true (by with_reducible assumption)
               have q9 : x5_1 < (a0.size : Int) := of_decide_eq_true (by with_reducible assumption)
               have hx9 := bt_at a0 x5_1
               replace p9 := eq_true p9
               replace q9 := eq_true q9
               have p15 : 0 ≤ ((ji12) : Int) := of_decide_eq_true (by with_reducible assumption)
               have q15 : (ji12) < (a0.size : Int) := of_decide_eq_true (by with_reducible assumption)
               have hx15 := bt_at a0 (ji12)
               replace p15 := eq_true p15
               replace q15 := eq_true q15
               have p17 : 0 ≤ ((ji12) : Int) := of_decide_eq_true (by with_reducible assumption)
               have q17 : (ji12) < (a0.size : Int) := of_decide_eq_true (by with_reducible assumption)
               have hx17 := bt_at a0 (ji12)
               replace p17 := eq_true p17
               replace q17 := eq_true q17
               have p19 : 0 ≤ ((ji12) : Int) := of_decide_eq_true (by with_reducible assumption)
               have q19 : (ji12) < (a0.size : Int) := of_decide_eq_true (by with_reducible assumption)
               have hx19 := bt_at a0 (ji12)
               replace p19 := eq_true p19
               replace q19 := eq_true q19
               have p21 : 0 ≤ ((ji12) : Int) := of_decide_eq_true (by with_reducible assumption)
               have q21 : (ji12) < (a0.size : Int) := of_decide_eq_true (by with_reducible assumption)
               have hx21 := bt_at a0 (ji12)
               replace p21 := eq_true p21
               replace q21 := eq_true q21
               go_wp2
               go_roundg k1
               case measure => have := HK1.out; omega
               case rel => exact ⟨(wrap64 ((ji12) + 1)), (by rfl), H', ⟨by have := HK1.out; omega⟩, by repeat (first | exact Drawn0.refl _ | apply Drawn0.step)⟩
              ·rw [if_neg c22] at H
               have c22b0 : ((bt a0 (ji12)) == 116) = false := beq_eq_false_iff_ne.mpr c22
               have c22b1 : ((bt a0 (ji12)) != 116) = true := bne_iff_ne.mpr c22
               obtain rfl := Option.some.inj H
               have p5 : 0 ≤ (x5_1 : Int) := of_decide_eq_true (by with_reducible assumption)
               have q5 : x5_1 < (a0.size : Int) := of_decide_eq_true (by with_reducible assumption)
               have hx5 := bt_at a0 x5_1
               replace p5 := eq_true p5
               replace q5 := eq_true q5
               have p7 : 0 ≤ (x5_1 : Int) := of_decide_eq_true (by with_reducible assumption)
               have q7 : x5_1 < (a0.size : Int) := of_decide_eq_true (by with_reducible assumption)
               have hx7 := bt_at a0 x5_1
               replace p7 := eq_true p7
               replace q7 := eq_true q7
               have p9 : 0 ≤ (x5_1 : Int) := of_decide_eq_true (by with_reducible assumption)
               have q9 : x5_1 < (a0.size : Int) := of_decide_eq_true (by with_reducible assumption)
               have hx9 := bt_at a0 x5_1
               replace p9 := eq_true p9
               replace q9 := eq_true q9
               have p15 : 0 ≤ ((ji12) : Int) := of_decide_eq_true (by with_reducible assumption)
               have q15 : (ji12) < (a0.size : Int) := of_decide_eq_true (by with_reducible assumption)
               have hx15 := bt_at a0 (ji12)
               replace p15 := eq_true p15
               replace q15 := eq_true q15
               have p17 : 0 ≤ ((ji12) : Int) := of_decide_eq_true (by with_reducible assumption)
               have q17 : (ji12) < (a0.size : Int) := of_decide_eq_true (by with_reducible assumption)
               have hx17 := bt_at a0 (ji12)
               replace p17 := eq_true p17
               replace q17 := eq_true q17
               have p19 : 0 ≤ ((ji12) : Int) := of_decide_eq_true (by with_reducible assumption)
               have q19 : (ji12) < (a0.size : Int) := of_decide_eq_true (by with_reducible assumption)
               have hx19 := bt_at a0 (ji12)
               replace p19 := eq_true p19
               replace q19 := eq_true q19
               have p21 : 0 ≤ ((ji12) : Int) := of_decide_eq_true (by with_reducible assumption)
               have q21 : (ji12) < (a0.size : Int) := of_decide_eq_true (by with_reducible assumption)
               have hx21 := bt_at a0 (ji12)
               replace p21 := eq_true p21
               replace q21 := eq_true q21
               go_wp2
               go_ret
               exact ⟨by rfl, by repeat (first | exact Drawn0.refl _ | apply Drawn0.step)⟩
          ·rw [if_neg c14] at H
           exact absurd H (by simp)
         ·rw [if_neg c13] at H
          exact absurd H (by simp)
       ·rw [if_neg c10] at H
        have c10b0 : ((bt a0 x5_1) == 92) = false := beq_eq_false_iff_ne.mpr c10
        have c10b1 : ((bt a0 x5_1) != 92) = true := bne_iff_ne.mpr c10
        have H' := Aside0.mk H
        clear H
        have p5 : 0 ≤ (x5_1 : Int) := of_decide_eq_true (by with_reducible assumption)
        have q5 : x5_1 < (a0.size : Int) := of_decide_eq_true (by with_reducible assumption)
        have hx5 := bt_at a0 x5_1
        replace p5 := eq_true p5
        replace q5 := eq_true q5
        have p7 : 0 ≤ (x5_1 : Int) := of_decide_eq_true (by with_reducible assumption)
        have q7 : x5_1 < (a0.size : Int) := of_decide_eq_true (by with_reducible assumption)
        have hx7 := bt_at a0 x5_1
        replace p7 := eq_true p7
        replace q7 := eq_true q7
        have p9 : 0 ≤ (x5_1 : Int) := of_decide_eq_true (by with_reducible assumption)
        have q9 : x5_1 < (a0.size : Int) := of_decide_eq_true (by with_reducible assumption)
        have hx9 := bt_at a0 x5_1
        replace p9 := eq_true p9
        replace q9 := eq_true q9
        go_wp2
        go_roundg k1
        case measure => have := HK1.out; omega
        case rel => exact ⟨(wrap64 (x5_1 + 1)), (by rfl), H', ⟨by have := HK1.out; omega⟩, by repeat (first | exact Drawn0.refl _ | apply Drawn0.step)⟩
    ·rw [if_neg c4] at H
     exact absurd H (by simp)
   ·rw [if_neg c3] at H
    have c3b0 : decide (x5_1 < (a0.size : Int)) = false := decide_eq_false c3
    clear c3
    obtain rfl := Option.some.inj H
    go_wp2
    go_ret
    exact ⟨by rfl, by repeat (first | exact Drawn0.refl _ | apply Drawn0.step)⟩

/-! ### orielref05_digit: function 74 -/
def orielref05_digit.f (a0 : Int) : Option (Bool) := if a0 ≥ 48 then (some (decide (a0 ≤ 57))) else (some false)
set_option maxHeartbeats 8000000 in
set_option maxRecDepth 100000 in
theorem orielref05_digit.calls (a0 : Int) (r : Bool) (w : World) (h : orielref05_digit.f a0 = some r) :
  Calls Tryz.prog 74 #[.int .u8 a0] w fun e w' => e = .returned (.bool r) ∧ Drawn0 w w' := by
 have H : (if a0 ≥ 48 then (some (decide (a0 ≤ 57))) else (some false)) = some r := h
 clear h
 by_cases c2 : a0 ≥ 48
 ·rw [if_pos c2] at H
  have c2b0 : decide (48 ≤ a0) = true := decide_eq_true c2
  clear c2
  obtain rfl := Option.some.inj H
  go_enter Tryz.func74, Tryz.ntmps74
  go_wp2
  go_ret
  exact ⟨by rfl, by repeat (exact Drawn0.refl _)⟩
 ·rw [if_neg c2] at H
  have c2b0 : decide (48 ≤ a0) = false := decide_eq_false c2
  clear c2
  obtain rfl := Option.some.inj H
  go_enter Tryz.func74, Tryz.ntmps74
  go_wp2
  go_ret
  exact ⟨by rfl, by repeat (exact Drawn0.refl _)⟩

end Go.Proofs.YtfccifekaokibaaGreatDoor.QT

