-- Laid by this claim's own program (mprint.py in the repo).
import Derived.Test.YtfccifekaokibaaGreatDoorQTx0
import Derived.Test.YtfccifekaokibaaGreatDoorQTx4
import Derived.Test.YtfccifekaokibaaGreatDoorQTx9
import Derived.Test.YtfccifekaokibaaGreatDoorQTx10
namespace Go.Proofs.YtfccifekaokibaaGreatDoor.QT
open Go.RowKit Go.Proofs.YtfccifekaokibaaGreatDoorW.PrintWords Go.Proofs.YtfccifekaokibaaGreatDoorW.PrintLast Go.Proofs.YtfccifekaokibaaGreatDoorW.PrintMore
attribute [local go_sem] max2_int min2_int max_two min_two max_three min_three max_four min_four   -- for this text's walks alone
set_option linter.unusedVariables false
set_option linter.unusedSimpArgs false

/-! ### name_Level: function 43 -/
mutual
def name_Level.j0 : Nat → Int → Bool → Option (Int × Bool)
 | 0, _, _ => none
 | k + 1, x8, x9 => if x9 = true then (some (7, false)) else (if x8 = 43 then (name_Level.j1 k x8 (x8 == 43)) else (name_Level.j1 k x8 (x8 == 45)))
def name_Level.j1 : Nat → Int → Bool → Option (Int × Bool)
 | 0, _, _ => none
 | k + 1, x8, x13 => if x13 = true then (some (6, false)) else (if x8 = 94 then (some (5, true)) else (if x8 = 64 then (name_Level.j2 k x8 (x8 == 64)) else (name_Level.j2 k x8 (x8 == 58))))
def name_Level.j2 : Nat → Int → Bool → Option (Int × Bool)
 | 0, _, _ => none
 | k + 1, x8, x18 => if x18 = true then (some (5, true)) else (if x8 = 61 then (name_Level.j3 k x8 (x8 == 61)) else (if x8 = 60 then (name_Level.j3 k x8 (x8 == 60)) else (if x8 = 62 then (name_Level.j3 k x8 (x8 == 62)) else (name_Level.j3 k x8 (x8 == 33)))))
def name_Level.j3 : Nat → Int → Bool → Option (Int × Bool)
 | 0, _, _ => none
 | k + 1, x8, x21 => if x21 = true then (some (4, false)) else (if x8 = 38 then (some (3, false)) else (if x8 = 124 then (some (3, false)) else (some (2, false))))
end
def name_Level.f (k : Nat) (a0 : ByteArray) : Option (Int × Bool) := (name_Kind.f k a0).bind fun t160 => (if t160 = 9 then (if 0 < (a0.size : Int) then (if (bt a0 0) = 42 then (name_Level.j0 k (bt a0 0) ((bt a0 0) == 42)) else (if (bt a0 0) = 47 then (name_Level.j0 k (bt a0 0) ((bt a0 0) == 47)) else (name_Level.j0 k (bt a0 0) ((bt a0 0) == 37)))) else (none)) else (some (0, false)))
theorem name_Level.mono_l : ∀ k, (∀ y0 y1, LeO (name_Level.j0 k y0 y1) (name_Level.j0 (k + 1) y0 y1)) ∧ (∀ y0 y1, LeO (name_Level.j1 k y0 y1) (name_Level.j1 (k + 1) y0 y1)) ∧ (∀ y0 y1, LeO (name_Level.j2 k y0 y1) (name_Level.j2 (k + 1) y0 y1)) ∧ (∀ y0 y1, LeO (name_Level.j3 k y0 y1) (name_Level.j3 (k + 1) y0 y1))
 | 0 => ⟨fun _ _ r h => by simp [name_Level.j0] at h, fun _ _ r h => by simp [name_Level.j1] at h, fun _ _ r h => by simp [name_Level.j2] at h, fun _ _ r h => by simp [name_Level.j3] at h⟩
 | k + 1 => by
  obtain ⟨ih0, ih1, ih2, ih3⟩ := name_Level.mono_l k
  refine ⟨?_, ?_, ?_, ?_⟩
  ·intro y0 y1
   unfold name_Level.j0
   repeat' first
   | (with_reducible exact ih1 _ _)
   | (with_reducible exact LeO.refl _)
   | (with_reducible refine LeO.ite ?_ ?_)
  ·intro y0 y1
   unfold name_Level.j1
   repeat' first
   | (with_reducible exact ih2 _ _)
   | (with_reducible exact LeO.refl _)
   | (with_reducible refine LeO.ite ?_ ?_)
  ·intro y0 y1
   unfold name_Level.j2
   repeat' first
   | (with_reducible exact ih3 _ _)
   | (with_reducible exact LeO.refl _)
   | (with_reducible refine LeO.ite ?_ ?_)
  ·intro y0 y1
   unfold name_Level.j3
   repeat' with_reducible exact LeO.refl _
theorem name_Level.mono : ∀ a0 k, LeO (name_Level.f k a0) (name_Level.f (k + 1) a0) := by
 intro a0 k
 obtain ⟨ih0, ih1, ih2, ih3⟩ := name_Level.mono_l k
 unfold name_Level.f
 repeat' first
   | (with_reducible exact ih0 _ _)
   | (with_reducible exact name_Kind.mono _ _)
   | (with_reducible exact LeO.refl _)
   | (with_reducible refine LeO.ite ?_ ?_)
   | (with_reducible refine LeO.bind ?_ (fun _ => ?_))
set_option maxHeartbeats 8000000 in
set_option maxRecDepth 100000 in
theorem name_Level.calls (k : Nat) (a0 : ByteArray) (r1 : Int) (r2 : Bool) (w : World) (h : name_Level.f k a0 = some (r1, r2)) :
  Calls Tryz.prog 43 #[.string a0] w fun e w' => e = .returned (.tuple #[.int .i64 r1, .bool r2]) ∧ Below w.heap.size w w' := by
 have HB := Aside0.mk (Below.refl w.heap.size w)
 have H : ((name_Kind.f k a0).bind fun t160 => (if t160 = 9 then (if 0 < (a0.size : Int) then (if (bt a0 0) = 42 then (name_Level.j0 k (bt a0 0) ((bt a0 0) == 42)) else (if (bt a0 0) = 47 then (name_Level.j0 k (bt a0 0) ((bt a0 0) == 47)) else (name_Level.j0 k (bt a0 0) ((bt a0 0) == 37)))) else (none)) else (some (0, false)))) = some (r1, r2) := h
 clear h
 replace H := Option.bind_eq_some_iff.mp H
 obtain ⟨t160, A20, H⟩ := H
 replace H : (if t160 = 9 then (if 0 < (a0.size : Int) then (if (bt a0 0) = 42 then (name_Level.j0 k (bt a0 0) ((bt a0 0) == 42)) else (if (bt a0 0) = 47 then (name_Level.j0 k (bt a0 0) ((bt a0 0) == 47)) else (name_Level.j0 k (bt a0 0) ((bt a0 0) == 37)))) else (none)) else (some (0, false))) = some (r1, r2) := H
 have A2 := Aside0.mk A20
 clear A20
 by_cases c3 : t160 = 9
 ·rw [if_pos c3] at H
  have c3b0 : (t160 == 9) = true := beq_iff_eq.mpr c3
  have c3b1 : (t160 != 9) = false := bne_eq_false_iff_eq.mpr c3
  clear c3
  by_cases c4 : 0 < (a0.size : Int)
  ·rw [if_pos c4] at H
   have c4b0 : decide (0 < (a0.size : Int)) = true := decide_eq_true c4
   have c4b1 : decide (0 < a0.size) = true := decide_eq_true (by omega)
   clear c4
   have HC6 := Aside0.mk H
   clear H
   go_enter Tryz.func43, Tryz.ntmps43
   go_upto_if 9 with (((with_reducible refine gate_callee (f := 15) rfl ?_); refine goesL_ (some 5) rfl rfl Tryz.func15 (by kernel_rfl) rfl #[.string a0] rfl (by (try simp only [List.map_toArray, List.map_cons, List.map_nil]); rfl) ?_; (with_reducible refine (name_Kind.calls k a0 t160 _ A2.out).mono ?_); rintro e w7 ⟨rfl, hb⟩; refine ⟨_, rfl, ?_⟩; have n0_ := Aside0.mk (below_step (by repeat (with_reducible exact HB.out)) hb); clear HB; have HB := n0_; clear n0_; (try clear hb); (try clear hb2); (try clear hk); (try clear hi); have p5 : 0 ≤ (0 : Int) := (by omega); have q5 : 0 < a0.size := (by have : (0 : Int) < (a0.size : Int) := of_decide_eq_true (by with_reducible assumption); omega); have hx5 : ∀ h : 0 < a0.size, ((a0[0]'h).toNat : Int) = bt a0 0 := bt_at a0 0; clear p5; have qi5 : (0 < (a0.size : Int)) = True := eq_true (of_decide_eq_true (by with_reducible assumption)); replace q5 := eq_true q5))
   (try simp only [Act.put, List.setIfInBounds_toArray, List.set_cons_zero, List.set_cons_succ])
   go_cut [9] (fun v9 wc => ∃ (kq : Nat) (x9_5 : Bool), v9 = .bool x9_5 ∧ Aside0 (name_Level.j0 kq (bt a0 0) x9_5 = some (r1, r2)) ∧ Aside0 (kq ≤ k) ∧ Aside0 (Below w.heap.size w wc))
   case first =>
    have H := HC6.out
    clear HC6
    by_cases c8 : (bt a0 0) = 42
    ·rw [if_pos c8] at H
     have c8b0 : ((bt a0 0) == 42) = true := beq_iff_eq.mpr c8
     have c8b1 : ((bt a0 0) != 42) = false := bne_eq_false_iff_eq.mpr c8
     clear c8
     (rw [c8b0])
     have H' := Aside0.mk H
     clear H
     go_wp2
     go_meet
     case rel => exact ⟨_, (((bt a0 0) == 42)), (by (simp [*]; done)), H', ⟨by omega⟩, ⟨by repeat (with_reducible exact HB.out)⟩⟩
    ·rw [if_neg c8] at H
     have c8b0 : ((bt a0 0) == 42) = false := beq_eq_false_iff_ne.mpr c8
     have c8b1 : ((bt a0 0) != 42) = true := bne_iff_ne.mpr c8
     (rw [c8b0])
     by_cases c9 : (bt a0 0) = 47
     ·rw [if_pos c9] at H
      have c9b0 : ((bt a0 0) == 47) = true := beq_iff_eq.mpr c9
      have c9b1 : ((bt a0 0) != 47) = false := bne_eq_false_iff_eq.mpr c9
      clear c9
      have H' := Aside0.mk H
      clear H
      go_wp2
      go_meet
      case rel => exact ⟨_, (((bt a0 0) == 47)), (by (simp [*]; done)), H', ⟨by omega⟩, ⟨by repeat (with_reducible exact HB.out)⟩⟩
     ·rw [if_neg c9] at H
      have c9b0 : ((bt a0 0) == 47) = false := beq_eq_false_iff_ne.mpr c9
      have c9b1 : ((bt a0 0) != 47) = true := bne_iff_ne.mpr c9
      have H' := Aside0.mk H
      clear H
      go_wp2
      go_meet
      case rel => exact ⟨_, (((bt a0 0) == 37)), (by rfl), H', ⟨by omega⟩, ⟨by repeat (with_reducible exact HB.out)⟩⟩
   case rest =>
    clear HC6
    clear c3b0 c3b1 c4b0 c4b1 q5 hx5 qi5
    obtain ⟨kq, x9_5, rfl, HA, HJ5, HB⟩ := hcut
    cases kq with
    | zero => exact absurd HA.out (by simp [name_Level.j0])
    | succ kj5 =>
     have H := HA.out
     clear HA
     simp only [name_Level.j0] at H
     by_cases c10 : x9_5 = true
     ·subst c10
      have H1 : (some (7, false)) = some (r1, r2) := by rw [if_pos rfl] at H; exact H
      clear H
      have H := H1
      clear H1
      simp only [Option.some.injEq, Prod.mk.injEq] at H
      obtain ⟨rfl, rfl⟩ := H
      go_wp2
      go_ret2
      exact ⟨by rfl, by repeat (with_reducible exact HB.out)⟩
     ·replace c10 := Bool.eq_false_iff.mpr c10
      subst c10
      have H1 : (if (bt a0 0) = 43 then (name_Level.j1 kj5 (bt a0 0) ((bt a0 0) == 43)) else (name_Level.j1 kj5 (bt a0 0) ((bt a0 0) == 45))) = some (r1, r2) := by rw [if_neg (show ¬ (false = true) by decide)] at H; exact H
      clear H
      have H := H1
      clear H1
      have HC11 := Aside0.mk H
      clear H
      go_upto_if 13 with (fail)
      go_cut [13] (fun v13 wc => ∃ (kq : Nat) (x13_10 : Bool), v13 = .bool x13_10 ∧ Aside0 (name_Level.j1 kq (bt a0 0) x13_10 = some (r1, r2)) ∧ Aside0 (kq ≤ kj5) ∧ Aside0 (Below w.heap.size w wc))
      case first =>
       have H := HC11.out
       clear HC11
       by_cases c12 : (bt a0 0) = 43
       ·rw [if_pos c12] at H
        have c12b0 : ((bt a0 0) == 43) = true := beq_iff_eq.mpr c12
        have c12b1 : ((bt a0 0) != 43) = false := bne_eq_false_iff_eq.mpr c12
        clear c12
        (rw [c12b0])
        have H' := Aside0.mk H
        clear H
        go_wp2
        go_meet
        case rel => exact ⟨_, (((bt a0 0) == 43)), (by (simp [*]; done)), H', ⟨by have := HJ5.out; omega⟩, ⟨by repeat (with_reducible exact HB.out)⟩⟩
       ·rw [if_neg c12] at H
        have c12b0 : ((bt a0 0) == 43) = false := beq_eq_false_iff_ne.mpr c12
        have c12b1 : ((bt a0 0) != 43) = true := bne_iff_ne.mpr c12
        (rw [c12b0])
        have H' := Aside0.mk H
        clear H
        go_wp2
        go_meet
        case rel => exact ⟨_, (((bt a0 0) == 45)), (by rfl), H', ⟨by have := HJ5.out; omega⟩, ⟨by repeat (with_reducible exact HB.out)⟩⟩
      case rest =>
       clear HC11
       obtain ⟨kq, x13_10, rfl, HA, HJ10, HB⟩ := hcut
       cases kq with
       | zero => exact absurd HA.out (by simp [name_Level.j1])
       | succ kj10 =>
        have H := HA.out
        clear HA
        simp only [name_Level.j1] at H
        by_cases c13 : x13_10 = true
        ·subst c13
         have H1 : (some (6, false)) = some (r1, r2) := by rw [if_pos rfl] at H; exact H
         clear H
         have H := H1
         clear H1
         simp only [Option.some.injEq, Prod.mk.injEq] at H
         obtain ⟨rfl, rfl⟩ := H
         go_wp2
         go_ret2
         exact ⟨by rfl, by repeat (with_reducible exact HB.out)⟩
        ·replace c13 := Bool.eq_false_iff.mpr c13
         subst c13
         have H1 : (if (bt a0 0) = 94 then (some (5, true)) else (if (bt a0 0) = 64 then (name_Level.j2 kj10 (bt a0 0) ((bt a0 0) == 64)) else (name_Level.j2 kj10 (bt a0 0) ((bt a0 0) == 58)))) = some (r1, r2) := by rw [if_neg (show ¬ (false = true) by decide)] at H; exact H
         clear H
         have H := H1
         clear H1
         by_cases c14 : (bt a0 0) = 94
         ·rw [if_pos c14] at H
          have c14b0 : ((bt a0 0) == 94) = true := beq_iff_eq.mpr c14
          have c14b1 : ((bt a0 0) != 94) = false := bne_eq_false_iff_eq.mpr c14
          clear c14
          simp only [Option.some.injEq, Prod.mk.injEq] at H
          obtain ⟨rfl, rfl⟩ := H
          go_wp2
          go_ret2
          exact ⟨by rfl, by repeat (with_reducible exact HB.out)⟩
         ·rw [if_neg c14] at H
          have c14b0 : ((bt a0 0) == 94) = false := beq_eq_false_iff_ne.mpr c14
          have c14b1 : ((bt a0 0) != 94) = true := bne_iff_ne.mpr c14
          have HC15 := Aside0.mk H
          clear H
          go_upto_if 18 with (fail)
          go_cut [18] (fun v18 wc => ∃ (kq : Nat) (x18_14 : Bool), v18 = .bool x18_14 ∧ Aside0 (name_Level.j2 kq (bt a0 0) x18_14 = some (r1, r2)) ∧ Aside0 (kq ≤ kj10) ∧ Aside0 (Below w.heap.size w wc))
          case first =>
           have H := HC15.out
           clear HC15
           by_cases c16 : (bt a0 0) = 64
           ·rw [if_pos c16] at H
            have c16b0 : ((bt a0 0) == 64) = true := beq_iff_eq.mpr c16
            have c16b1 : ((bt a0 0) != 64) = false := bne_eq_false_iff_eq.mpr c16
            clear c16
            (rw [c16b0])
            have H' := Aside0.mk H
            clear H
            go_wp2
            go_meet
            case rel => exact ⟨_, (((bt a0 0) == 64)), (by (simp [*]; done)), H', ⟨by have := HJ5.out; have := HJ10.out; omega⟩, ⟨by repeat (with_reducible exact HB.out)⟩⟩
           ·rw [if_neg c16] at H
            have c16b0 : ((bt a0 0) == 64) = false := beq_eq_false_iff_ne.mpr c16
            have c16b1 : ((bt a0 0) != 64) = true := bne_iff_ne.mpr c16
            (rw [c16b0])
            have H' := Aside0.mk H
            clear H
            go_wp2
            go_meet
            case rel => exact ⟨_, (((bt a0 0) == 58)), (by rfl), H', ⟨by have := HJ5.out; have := HJ10.out; omega⟩, ⟨by repeat (with_reducible exact HB.out)⟩⟩
          case rest =>
           clear HC15
           clear c14 c14b0 c14b1
           obtain ⟨kq, x18_14, rfl, HA, HJ14, HB⟩ := hcut
           cases kq with
           | zero => exact absurd HA.out (by simp [name_Level.j2])
           | succ kj14 =>
            have H := HA.out
            clear HA
            simp only [name_Level.j2] at H
            by_cases c17 : x18_14 = true
            ·subst c17
             have H1 : (some (5, true)) = some (r1, r2) := by rw [if_pos rfl] at H; exact H
             clear H
             have H := H1
             clear H1
             simp only [Option.some.injEq, Prod.mk.injEq] at H
             obtain ⟨rfl, rfl⟩ := H
             go_wp2
             go_ret2
             exact ⟨by rfl, by repeat (with_reducible exact HB.out)⟩
            ·replace c17 := Bool.eq_false_iff.mpr c17
             subst c17
             have H1 : (if (bt a0 0) = 61 then (name_Level.j3 kj14 (bt a0 0) ((bt a0 0) == 61)) else (if (bt a0 0) = 60 then (name_Level.j3 kj14 (bt a0 0) ((bt a0 0) == 60)) else (if (bt a0 0) = 62 then (name_Level.j3 kj14 (bt a0 0) ((bt a0 0) == 62)) else (name_Level.j3 kj14 (bt a0 0) ((bt a0 0) == 33))))) = some (r1, r2) := by rw [if_neg (show ¬ (false = true) by decide)] at H; exact H
             clear H
             have H := H1
             clear H1
             have HC18 := Aside0.mk H
             clear H
             go_upto_if 21 with (fail)
             go_cut [21] (fun v21 wc => ∃ (kq : Nat) (x21_17 : Bool), v21 = .bool x21_17 ∧ Aside0 (name_Level.j3 kq (bt a0 0) x21_17 = some (r1, r2)) ∧ Aside0 (kq ≤ kj14) ∧ Aside0 (Below w.heap.size w wc))
             case first =>
              have H := HC18.out
              clear HC18
              by_cases c19 : (bt a0 0) = 61
              ·rw [if_pos c19] at H
               have c19b0 : ((bt a0 0) == 61) = true := beq_iff_eq.mpr c19
               have c19b1 : ((bt a0 0) != 61) = false := bne_eq_false_iff_eq.mpr c19
               clear c19
               (rw [c19b0])
               have H' := Aside0.mk H
               clear H
               go_wp2
               go_meet
               case rel => exact ⟨_, (((bt a0 0) == 61)), (by (simp [*]; done)), H', ⟨by have := HJ5.out; have := HJ10.out; have := HJ14.out; omega⟩, ⟨by repeat (with_reducible exact HB.out)⟩⟩
              ·rw [if_neg c19] at H
               have c19b0 : ((bt a0 0) == 61) = false := beq_eq_false_iff_ne.mpr c19
               have c19b1 : ((bt a0 0) != 61) = true := bne_iff_ne.mpr c19
               (rw [c19b0])
               by_cases c20 : (bt a0 0) = 60
               ·rw [if_pos c20] at H
                have c20b0 : ((bt a0 0) == 60) = true := beq_iff_eq.mpr c20
                have c20b1 : ((bt a0 0) != 60) = false := bne_eq_false_iff_eq.mpr c20
                clear c20
                have H' := Aside0.mk H
                clear H
                go_wp2
                go_meet
                case rel => exact ⟨_, (((bt a0 0) == 60)), (by (simp [*]; done)), H', ⟨by have := HJ5.out; have := HJ10.out; have := HJ14.out; omega⟩, ⟨by repeat (with_reducible exact HB.out)⟩⟩
               ·rw [if_neg c20] at H
                have c20b0 : ((bt a0 0) == 60) = false := beq_eq_false_iff_ne.mpr c20
                have c20b1 : ((bt a0 0) != 60) = true := bne_iff_ne.mpr c20
                by_cases c21 : (bt a0 0) = 62
                ·rw [if_pos c21] at H
                 have c21b0 : ((bt a0 0) == 62) = true := beq_iff_eq.mpr c21
                 have c21b1 : ((bt a0 0) != 62) = false := bne_eq_false_iff_eq.mpr c21
                 clear c21
                 have H' := Aside0.mk H
                 clear H
                 go_wp2
                 go_meet
                 case rel => exact ⟨_, (((bt a0 0) == 62)), (by (simp [*]; done)), H', ⟨by have := HJ5.out; have := HJ10.out; have := HJ14.out; omega⟩, ⟨by repeat (with_reducible exact HB.out)⟩⟩
                ·rw [if_neg c21] at H
                 have c21b0 : ((bt a0 0) == 62) = false := beq_eq_false_iff_ne.mpr c21
                 have c21b1 : ((bt a0 0) != 62) = true := bne_iff_ne.mpr c21
                 have H' := Aside0.mk H
                 clear H
                 go_wp2
                 go_meet
                 case rel => exact ⟨_, (((bt a0 0) == 33)), (by rfl), H', ⟨by have := HJ5.out; have := HJ10.out; have := HJ14.out; omega⟩, ⟨by repeat (with_reducible exact HB.out)⟩⟩
             case rest =>
              clear HC18
              obtain ⟨kq, x21_17, rfl, HA, HJ17, HB⟩ := hcut
              cases kq with
              | zero => exact absurd HA.out (by simp [name_Level.j3])
              | succ kj17 =>
               have H := HA.out
               clear HA
               simp only [name_Level.j3] at H
               by_cases c22 : x21_17 = true
               ·subst c22
                have H1 : (some (4, false)) = some (r1, r2) := by rw [if_pos rfl] at H; exact H
                clear H
                have H := H1
                clear H1
                simp only [Option.some.injEq, Prod.mk.injEq] at H
                obtain ⟨rfl, rfl⟩ := H
                go_wp2
                go_ret2
                exact ⟨by rfl, by repeat (with_reducible exact HB.out)⟩
               ·replace c22 := Bool.eq_false_iff.mpr c22
                subst c22
                have H1 : (if (bt a0 0) = 38 then (some (3, false)) else (if (bt a0 0) = 124 then (some (3, false)) else (some (2, false)))) = some (r1, r2) := by rw [if_neg (show ¬ (false = true) by decide)] at H; exact H
                clear H
                have H := H1
                clear H1
                by_cases c23 : (bt a0 0) = 38
                ·rw [if_pos c23] at H
                 have c23b0 : ((bt a0 0) == 38) = true := beq_iff_eq.mpr c23
                 have c23b1 : ((bt a0 0) != 38) = false := bne_eq_false_iff_eq.mpr c23
                 clear c23
                 simp only [Option.some.injEq, Prod.mk.injEq] at H
                 obtain ⟨rfl, rfl⟩ := H
                 go_wp2
                 go_ret2
                 exact ⟨by rfl, by repeat (with_reducible exact HB.out)⟩
                ·rw [if_neg c23] at H
                 have c23b0 : ((bt a0 0) == 38) = false := beq_eq_false_iff_ne.mpr c23
                 have c23b1 : ((bt a0 0) != 38) = true := bne_iff_ne.mpr c23
                 by_cases c24 : (bt a0 0) = 124
                 ·rw [if_pos c24] at H
                  have c24b0 : ((bt a0 0) == 124) = true := beq_iff_eq.mpr c24
                  have c24b1 : ((bt a0 0) != 124) = false := bne_eq_false_iff_eq.mpr c24
                  clear c24
                  simp only [Option.some.injEq, Prod.mk.injEq] at H
                  obtain ⟨rfl, rfl⟩ := H
                  go_wp2
                  go_ret2
                  exact ⟨by rfl, by repeat (with_reducible exact HB.out)⟩
                 ·rw [if_neg c24] at H
                  have c24b0 : ((bt a0 0) == 124) = false := beq_eq_false_iff_ne.mpr c24
                  have c24b1 : ((bt a0 0) != 124) = true := bne_iff_ne.mpr c24
                  simp only [Option.some.injEq, Prod.mk.injEq] at H
                  obtain ⟨rfl, rfl⟩ := H
                  go_wp2
                  go_ret2
                  exact ⟨by rfl, by repeat (with_reducible exact HB.out)⟩
  ·rw [if_neg c4] at H
   exact absurd H (by simp)
 ·rw [if_neg c3] at H
  have c3b0 : (t160 == 9) = false := beq_eq_false_iff_ne.mpr c3
  have c3b1 : (t160 != 9) = true := bne_iff_ne.mpr c3
  simp only [Option.some.injEq, Prod.mk.injEq] at H
  obtain ⟨rfl, rfl⟩ := H
  go_enter Tryz.func43, Tryz.ntmps43
  go_wp2_with (((with_reducible refine gate_callee (f := 15) rfl ?_); refine goesL_ (some 5) rfl rfl Tryz.func15 (by kernel_rfl) rfl #[.string a0] rfl (by (try simp only [List.map_toArray, List.map_cons, List.map_nil]); rfl) ?_; (with_reducible refine (name_Kind.calls k a0 t160 _ A2.out).mono ?_); rintro e w25 ⟨rfl, hb⟩; refine ⟨_, rfl, ?_⟩; have n0_ := Aside0.mk (below_step (by repeat (with_reducible exact HB.out)) hb); clear HB; have HB := n0_; clear n0_; (try clear hb); (try clear hb2); (try clear hk); (try clear hi)))
  go_ret2
  exact ⟨by rfl, by repeat (with_reducible exact HB.out)⟩

/-! ### name_Alike: function 18 -/
def name_Alike.f (k : Nat) (a0 : ByteArray) (a1 : ByteArray) : Option (Bool) := (name_Kind.f k a0).bind fun t161 => ((name_Kind.f k a1).bind fun t162 => (if t161 = t162 then (if t161 = 9 then ((name_Level.f k a0).bind fun bt163 => ((name_Level.f k a1).bind fun bt165 => (if bt163.1 = bt165.1 then (some (bt163.2 == bt165.2)) else (some false)))) else (if t161 = 6 then (some true) else (if t161 = 7 then (some true) else (some false)))) else (some false)))
theorem name_Alike.mono : ∀ a0 a1 k, LeO (name_Alike.f k a0 a1) (name_Alike.f (k + 1) a0 a1) := by
 intro a0 a1 k
 unfold name_Alike.f
 repeat' first
   | (with_reducible exact name_Kind.mono _ _)
   | (with_reducible exact name_Level.mono _ _)
   | (with_reducible exact LeO.refl _)
   | (with_reducible refine LeO.ite ?_ ?_)
   | (with_reducible refine LeO.bind ?_ (fun _ => ?_))
set_option maxHeartbeats 8000000 in
set_option maxRecDepth 100000 in
theorem name_Alike.calls (k : Nat) (a0 : ByteArray) (a1 : ByteArray) (r : Bool) (w : World) (h : name_Alike.f k a0 a1 = some r) :
  Calls Tryz.prog 18 #[.string a0, .string a1] w fun e w' => e = .returned (.bool r) ∧ Below w.heap.size w w' := by
 have HB := Aside0.mk (Below.refl w.heap.size w)
 have H : ((name_Kind.f k a0).bind fun t161 => ((name_Kind.f k a1).bind fun t162 => (if t161 = t162 then (if t161 = 9 then ((name_Level.f k a0).bind fun bt163 => ((name_Level.f k a1).bind fun bt165 => (if bt163.1 = bt165.1 then (some (bt163.2 == bt165.2)) else (some false)))) else (if t161 = 6 then (some true) else (if t161 = 7 then (some true) else (some false)))) else (some false)))) = some r := h
 clear h
 replace H := Option.bind_eq_some_iff.mp H
 obtain ⟨t161, A30, H⟩ := H
 replace H : ((name_Kind.f k a1).bind fun t162 => (if t161 = t162 then (if t161 = 9 then ((name_Level.f k a0).bind fun bt163 => ((name_Level.f k a1).bind fun bt165 => (if bt163.1 = bt165.1 then (some (bt163.2 == bt165.2)) else (some false)))) else (if t161 = 6 then (some true) else (if t161 = 7 then (some true) else (some false)))) else (some false))) = some r := H
 have A3 := Aside0.mk A30
 clear A30
 replace H := Option.bind_eq_some_iff.mp H
 obtain ⟨t162, A40, H⟩ := H
 replace H : (if t161 = t162 then (if t161 = 9 then ((name_Level.f k a0).bind fun bt163 => ((name_Level.f k a1).bind fun bt165 => (if bt163.1 = bt165.1 then (some (bt163.2 == bt165.2)) else (some false)))) else (if t161 = 6 then (some true) else (if t161 = 7 then (some true) else (some false)))) else (some false)) = some r := H
 have A4 := Aside0.mk A40
 clear A40
 by_cases c5 : t161 = t162
 ·rw [if_pos c5] at H
  have c5b0 : (t161 == t162) = true := beq_iff_eq.mpr c5
  have c5b1 : (t161 != t162) = false := bne_eq_false_iff_eq.mpr c5
  clear c5
  by_cases c6 : t161 = 9
  ·rw [if_pos c6] at H
   have c6b0 : (t161 == 9) = true := beq_iff_eq.mpr c6
   have c6b1 : (t161 != 9) = false := bne_eq_false_iff_eq.mpr c6
   clear c6
   replace H := Option.bind_eq_some_iff.mp H
   obtain ⟨⟨t163, t164⟩, A70, H⟩ := H
   replace H : ((name_Level.f k a1).bind fun bt165 => (if t163 = bt165.1 then (some (t164 == bt165.2)) else (some false))) = some r := H
   have A7 := Aside0.mk A70
   clear A70
   replace H := Option.bind_eq_some_iff.mp H
   obtain ⟨⟨t165, t166⟩, A80, H⟩ := H
   replace H : (if t163 = t165 then (some (t164 == t166)) else (some false)) = some r := H
   have A8 := Aside0.mk A80
   clear A80
   by_cases c9 : t163 = t165
   ·rw [if_pos c9] at H
    have c9b0 : (t163 == t165) = true := beq_iff_eq.mpr c9
    have c9b1 : (t163 != t165) = false := bne_eq_false_iff_eq.mpr c9
    clear c9
    obtain rfl := Option.some.inj H
    go_enter Tryz.func18, Tryz.ntmps18
    go_wp2_with (first | ((with_reducible refine gate_callee (f := 15) rfl ?_); refine goesL_ (some 11) rfl rfl Tryz.func15 (by kernel_rfl) rfl #[.string a0] rfl (by (try simp only [List.map_toArray, List.map_cons, List.map_nil]); rfl) ?_; (with_reducible refine (name_Kind.calls k a0 t161 _ A3.out).mono ?_); rintro e w10 ⟨rfl, hb⟩; refine ⟨_, rfl, ?_⟩; have n0_ := Aside0.mk (below_step (by repeat (with_reducible exact HB.out)) hb); clear HB; have HB := n0_; clear n0_; (try clear hb); (try clear hb2); (try clear hk); (try clear hi)) | ((with_reducible refine gate_callee (f := 15) rfl ?_); refine goesL_ (some 14) rfl rfl Tryz.func15 (by kernel_rfl) rfl #[.string a1] rfl (by (try simp only [List.map_toArray, List.map_cons, List.map_nil]); rfl) ?_; (with_reducible refine (name_Kind.calls k a1 t162 _ A4.out).mono ?_); rintro e w11 ⟨rfl, hb⟩; refine ⟨_, rfl, ?_⟩; have n0_ := Aside0.mk (below_step (by repeat (with_reducible exact HB.out)) hb); clear HB; have HB := n0_; clear n0_; (try clear hb); (try clear hb2); (try clear hk); (try clear hi)) | ((with_reducible refine gate_callee (f := 43) rfl ?_); refine goesL_ (some 25) rfl rfl Tryz.func43 (by kernel_rfl) rfl #[.string a0] rfl (by (try simp only [List.map_toArray, List.map_cons, List.map_nil]); rfl) ?_; (with_reducible refine (name_Level.calls k a0 t163 t164 _ A7.out).mono ?_); rintro e w12 ⟨rfl, hb⟩; refine ⟨_, rfl, ?_⟩; have n0_ := Aside0.mk (below_step (by repeat (with_reducible exact HB.out)) hb); clear HB; have HB := n0_; clear n0_; (try clear hb); (try clear hb2); (try clear hk); (try clear hi)) | ((with_reducible refine gate_callee (f := 43) rfl ?_); refine goesL_ (some 30) rfl rfl Tryz.func43 (by kernel_rfl) rfl #[.string a1] rfl (by (try simp only [List.map_toArray, List.map_cons, List.map_nil]); rfl) ?_; (with_reducible refine (name_Level.calls k a1 t165 t166 _ A8.out).mono ?_); rintro e w13 ⟨rfl, hb⟩; refine ⟨_, rfl, ?_⟩; have n0_ := Aside0.mk (below_step (by repeat (with_reducible exact HB.out)) hb); clear HB; have HB := n0_; clear n0_; (try clear hb); (try clear hb2); (try clear hk); (try clear hi)))
    go_ret
    exact ⟨by rfl, by repeat (with_reducible exact HB.out)⟩
   ·rw [if_neg c9] at H
    have c9b0 : (t163 == t165) = false := beq_eq_false_iff_ne.mpr c9
    have c9b1 : (t163 != t165) = true := bne_iff_ne.mpr c9
    obtain rfl := Option.some.inj H
    go_enter Tryz.func18, Tryz.ntmps18
    go_wp2_with (first | ((with_reducible refine gate_callee (f := 15) rfl ?_); refine goesL_ (some 11) rfl rfl Tryz.func15 (by kernel_rfl) rfl #[.string a0] rfl (by (try simp only [List.map_toArray, List.map_cons, List.map_nil]); rfl) ?_; (with_reducible refine (name_Kind.calls k a0 t161 _ A3.out).mono ?_); rintro e w14 ⟨rfl, hb⟩; refine ⟨_, rfl, ?_⟩; have n0_ := Aside0.mk (below_step (by repeat (with_reducible exact HB.out)) hb); clear HB; have HB := n0_; clear n0_; (try clear hb); (try clear hb2); (try clear hk); (try clear hi)) | ((with_reducible refine gate_callee (f := 15) rfl ?_); refine goesL_ (some 14) rfl rfl Tryz.func15 (by kernel_rfl) rfl #[.string a1] rfl (by (try simp only [List.map_toArray, List.map_cons, List.map_nil]); rfl) ?_; (with_reducible refine (name_Kind.calls k a1 t162 _ A4.out).mono ?_); rintro e w15 ⟨rfl, hb⟩; refine ⟨_, rfl, ?_⟩; have n0_ := Aside0.mk (below_step (by repeat (with_reducible exact HB.out)) hb); clear HB; have HB := n0_; clear n0_; (try clear hb); (try clear hb2); (try clear hk); (try clear hi)) | ((with_reducible refine gate_callee (f := 43) rfl ?_); refine goesL_ (some 25) rfl rfl Tryz.func43 (by kernel_rfl) rfl #[.string a0] rfl (by (try simp only [List.map_toArray, List.map_cons, List.map_nil]); rfl) ?_; (with_reducible refine (name_Level.calls k a0 t163 t164 _ A7.out).mono ?_); rintro e w16 ⟨rfl, hb⟩; refine ⟨_, rfl, ?_⟩; have n0_ := Aside0.mk (below_step (by repeat (with_reducible exact HB.out)) hb); clear HB; have HB := n0_; clear n0_; (try clear hb); (try clear hb2); (try clear hk); (try clear hi)) | ((with_reducible refine gate_callee (f := 43) rfl ?_); refine goesL_ (some 30) rfl rfl Tryz.func43 (by kernel_rfl) rfl #[.string a1] rfl (by (try simp only [List.map_toArray, List.map_cons, List.map_nil]); rfl) ?_; (with_reducible refine (name_Level.calls k a1 t165 t166 _ A8.out).mono ?_); rintro e w17 ⟨rfl, hb⟩; refine ⟨_, rfl, ?_⟩; have n0_ := Aside0.mk (below_step (by repeat (with_reducible exact HB.out)) hb); clear HB; have HB := n0_; clear n0_; (try clear hb); (try clear hb2); (try clear hk); (try clear hi)))
    go_ret
    exact ⟨by rfl, by repeat (with_reducible exact HB.out)⟩
  ·rw [if_neg c6] at H
   have c6b0 : (t161 == 9) = false := beq_eq_false_iff_ne.mpr c6
   have c6b1 : (t161 != 9) = true := bne_iff_ne.mpr c6
   by_cases c18 : t161 = 6
   ·rw [if_pos c18] at H
    have c18b0 : (t161 == 6) = true := beq_iff_eq.mpr c18
    have c18b1 : (t161 != 6) = false := bne_eq_false_iff_eq.mpr c18
    clear c18
    obtain rfl := Option.some.inj H
    go_enter Tryz.func18, Tryz.ntmps18
    go_wp2_with (first | ((with_reducible refine gate_callee (f := 15) rfl ?_); refine goesL_ (some 11) rfl rfl Tryz.func15 (by kernel_rfl) rfl #[.string a0] rfl (by (try simp only [List.map_toArray, List.map_cons, List.map_nil]); rfl) ?_; (with_reducible refine (name_Kind.calls k a0 t161 _ A3.out).mono ?_); rintro e w19 ⟨rfl, hb⟩; refine ⟨_, rfl, ?_⟩; have n0_ := Aside0.mk (below_step (by repeat (with_reducible exact HB.out)) hb); clear HB; have HB := n0_; clear n0_; (try clear hb); (try clear hb2); (try clear hk); (try clear hi)) | ((with_reducible refine gate_callee (f := 15) rfl ?_); refine goesL_ (some 14) rfl rfl Tryz.func15 (by kernel_rfl) rfl #[.string a1] rfl (by (try simp only [List.map_toArray, List.map_cons, List.map_nil]); rfl) ?_; (with_reducible refine (name_Kind.calls k a1 t162 _ A4.out).mono ?_); rintro e w20 ⟨rfl, hb⟩; refine ⟨_, rfl, ?_⟩; have n0_ := Aside0.mk (below_step (by repeat (with_reducible exact HB.out)) hb); clear HB; have HB := n0_; clear n0_; (try clear hb); (try clear hb2); (try clear hk); (try clear hi)))
    go_ret
    exact ⟨by rfl, by repeat (with_reducible exact HB.out)⟩
   ·rw [if_neg c18] at H
    have c18b0 : (t161 == 6) = false := beq_eq_false_iff_ne.mpr c18
    have c18b1 : (t161 != 6) = true := bne_iff_ne.mpr c18
    by_cases c21 : t161 = 7
    ·rw [if_pos c21] at H
     have c21b0 : (t161 == 7) = true := beq_iff_eq.mpr c21
     have c21b1 : (t161 != 7) = false := bne_eq_false_iff_eq.mpr c21
     clear c21
     obtain rfl := Option.some.inj H
     go_enter Tryz.func18, Tryz.ntmps18
     go_wp2_with (first | ((with_reducible refine gate_callee (f := 15) rfl ?_); refine goesL_ (some 11) rfl rfl Tryz.func15 (by kernel_rfl) rfl #[.string a0] rfl (by (try simp only [List.map_toArray, List.map_cons, List.map_nil]); rfl) ?_; (with_reducible refine (name_Kind.calls k a0 t161 _ A3.out).mono ?_); rintro e w22 ⟨rfl, hb⟩; refine ⟨_, rfl, ?_⟩; have n0_ := Aside0.mk (below_step (by repeat (with_reducible exact HB.out)) hb); clear HB; have HB := n0_; clear n0_; (try clear hb); (try clear hb2); (try clear hk); (try clear hi)) | ((with_reducible refine gate_callee (f := 15) rfl ?_); refine goesL_ (some 14) rfl rfl Tryz.func15 (by kernel_rfl) rfl #[.string a1] rfl (by (try simp only [List.map_toArray, List.map_cons, List.map_nil]); rfl) ?_; (with_reducible refine (name_Kind.calls k a1 t162 _ A4.out).mono ?_); rintro e w23 ⟨rfl, hb⟩; refine ⟨_, rfl, ?_⟩; have n0_ := Aside0.mk (below_step (by repeat (with_reducible exact HB.out)) hb); clear HB; have HB := n0_; clear n0_; (try clear hb); (try clear hb2); (try clear hk); (try clear hi)))
     go_ret
     exact ⟨by rfl, by repeat (with_reducible exact HB.out)⟩
    ·rw [if_neg c21] at H
     have c21b0 : (t161 == 7) = false := beq_eq_false_iff_ne.mpr c21
     have c21b1 : (t161 != 7) = true := bne_iff_ne.mpr c21
     obtain rfl := Option.some.inj H
     go_enter Tryz.func18, Tryz.ntmps18
     go_wp2_with (first | ((with_reducible refine gate_callee (f := 15) rfl ?_); refine goesL_ (some 11) rfl rfl Tryz.func15 (by kernel_rfl) rfl #[.string a0] rfl (by (try simp only [List.map_toArray, List.map_cons, List.map_nil]); rfl) ?_; (with_reducible refine (name_Kind.calls k a0 t161 _ A3.out).mono ?_); rintro e w24 ⟨rfl, hb⟩; refine ⟨_, rfl, ?_⟩; have n0_ := Aside0.mk (below_step (by repeat (with_reducible exact HB.out)) hb); clear HB; have HB := n0_; clear n0_; (try clear hb); (try clear hb2); (try clear hk); (try clear hi)) | ((with_reducible refine gate_callee (f := 15) rfl ?_); refine goesL_ (some 14) rfl rfl Tryz.func15 (by kernel_rfl) rfl #[.string a1] rfl (by (try simp only [List.map_toArray, List.map_cons, List.map_nil]); rfl) ?_; (with_reducible refine (name_Kind.calls k a1 t162 _ A4.out).mono ?_); rintro e w25 ⟨rfl, hb⟩; refine ⟨_, rfl, ?_⟩; have n0_ := Aside0.mk (below_step (by repeat (with_reducible exact HB.out)) hb); clear HB; have HB := n0_; clear n0_; (try clear hb); (try clear hb2); (try clear hk); (try clear hi)))
     go_ret
     exact ⟨by rfl, by repeat (with_reducible exact HB.out)⟩
 ·rw [if_neg c5] at H
  have c5b0 : (t161 == t162) = false := beq_eq_false_iff_ne.mpr c5
  have c5b1 : (t161 != t162) = true := bne_iff_ne.mpr c5
  obtain rfl := Option.some.inj H
  go_enter Tryz.func18, Tryz.ntmps18
  go_wp2_with (first | ((with_reducible refine gate_callee (f := 15) rfl ?_); refine goesL_ (some 11) rfl rfl Tryz.func15 (by kernel_rfl) rfl #[.string a0] rfl (by (try simp only [List.map_toArray, List.map_cons, List.map_nil]); rfl) ?_; (with_reducible refine (name_Kind.calls k a0 t161 _ A3.out).mono ?_); rintro e w26 ⟨rfl, hb⟩; refine ⟨_, rfl, ?_⟩; have n0_ := Aside0.mk (below_step (by repeat (with_reducible exact HB.out)) hb); clear HB; have HB := n0_; clear n0_; (try clear hb); (try clear hb2); (try clear hk); (try clear hi)) | ((with_reducible refine gate_callee (f := 15) rfl ?_); refine goesL_ (some 14) rfl rfl Tryz.func15 (by kernel_rfl) rfl #[.string a1] rfl (by (try simp only [List.map_toArray, List.map_cons, List.map_nil]); rfl) ?_; (with_reducible refine (name_Kind.calls k a1 t162 _ A4.out).mono ?_); rintro e w27 ⟨rfl, hb⟩; refine ⟨_, rfl, ?_⟩; have n0_ := Aside0.mk (below_step (by repeat (with_reducible exact HB.out)) hb); clear HB; have HB := n0_; clear n0_; (try clear hb); (try clear hb2); (try clear hk); (try clear hi)))
  go_ret
  exact ⟨by rfl, by repeat (with_reducible exact HB.out)⟩

/-! ### spell_Fresh: function 6 -/
def frLoop (k : Nat) (like c : ByteArray) (P : List (List UInt8 × S32)) : Nat → ByteArray → Option ByteArray
 | 0, _ => none
 | g + 1, s => if s.size ≤ 1000000 then (name_Alike.f k s like).bind fun t => if t = true then (if (Gp P s.data.toList).length = 0 then some s else frLoop k like c P g (s ++ c)) else frLoop k like c P g (s ++ c) else none
def spell_Fresh.f (k : Nat) (a0 : ByteArray) (l1 : List S41) : Option (ByteArray × Bool) := (name_Kind.f k a0).bind fun kd =>
 if kd = 6 then (spell_Taken.f k l1).bind fun T => name_Fresh.f k 1 T else if kd = 7 then (spell_Taken.f k l1).bind fun T => name_Fresh.f k 4 T else
 if kd = 9 then (spell_spelled.f k l1).bind fun P => if 1 ≤ a0.size then (frLoop k a0 (a0.extract 0 1) P k (a0.extract 0 1 ++ a0.extract 0 1)).bind fun s => some (s, true) else none else some (⟨#[]⟩, false)
theorem frLoop_mono (like c : ByteArray) (P : List (List UInt8 × S32)) (k k' : Nat) (hk : ∀ s, LeO (name_Alike.f k s like) (name_Alike.f k' s like)) : ∀ g g' s, g ≤ g' → LeO (frLoop k like c P g s) (frLoop k' like c P g' s)
 | 0, _, _, _ => LeO.none _
 | g + 1, 0, _, h => by omega
 | g + 1, g' + 1, s, h => LeO.ite (LeO.bind (hk s) fun _ => LeO.ite (LeO.ite (LeO.refl _) (frLoop_mono like c P k k' hk g g' _ (by omega))) (frLoop_mono like c P k k' hk g g' _ (by omega))) (LeO.refl _)
theorem spell_Fresh.mono : ∀ a0 a1 k, LeO (spell_Fresh.f k a0 a1) (spell_Fresh.f (k + 1) a0 a1) := by
 intro a0 a1 k
 unfold spell_Fresh.f
 refine LeO.bind (name_Kind.mono a0 k) fun _ => LeO.ite ?_ (LeO.ite ?_ (LeO.ite ?_ (LeO.refl _)))
 ·exact LeO.bind (spell_Taken.mono a1 k) fun _ => name_Fresh.mono _ _ k
 ·exact LeO.bind (spell_Taken.mono a1 k) fun _ => name_Fresh.mono _ _ k
 ·exact LeO.bind (spell_spelled.mono a1 k) fun _ => LeO.ite (LeO.bind (frLoop_mono _ _ _ k (k + 1) (fun s => name_Alike.mono _ _ k) k (k + 1) _ (by omega)) fun _ => LeO.refl _) (LeO.refl _)
set_option maxHeartbeats 2000000 in
theorem clone_calls (s : ByteArray) (w : World) (hs : s.size ≤ 1000000) : Calls Tryz.prog 19 #[.string s] w fun e w' => e = .returned (.string s) ∧ Below w.heap.size w w' := by
 have HC := Aside0.mk (Tryz.stringslite_Clone s w (by omega))
 clear hs
 go_enter Tryz.func19, Tryz.ntmps19
 go_wp2_with (go_at_call 44; with_reducible refine HC.out.mono ?_; rintro e w2 ⟨rfl, hb⟩; have HB := Aside0.mk hb; clear hb)
 go_ret
 exact ⟨rfl, HB.out⟩
set_option maxHeartbeats 4000000 in
set_option maxRecDepth 100000 in
theorem spell_Fresh.calls (k : Nat) (a0 : ByteArray) (A1 : Option Addr) (c1 : Nat) (l1 : List S41) (r1 : ByteArray) (r2 : Bool) (w : World) (hr1 : Kd.C k41 w A1 l1.length l1) (hc1 : l1.length ≤ c1) (h : spell_Fresh.f k a0 l1 = some (r1, r2)) (htab : Lib.TabIs Tryz.prog w "internal/strconv.uint64pow10" .u64 Lib.pow10Tab) :
  Calls Tryz.prog 6 #[.string a0, .slice A1 l1.length c1] w fun e w' => e = .returned (.tuple #[.string r1, .bool r2]) ∧ Below w.heap.size w w' := by
 unfold spell_Fresh.f at h
 obtain ⟨kd, hkd, h⟩ := Option.bind_eq_some_iff.1 h
 have HTAB := Aside0.mk htab
 clear htab
 have HK := Aside0.mk (fun (W : World) => name_Kind.calls k a0 kd W hkd)
 have HT := Aside0.mk (fun (W : World) (hb : Below w.heap.size w W) (T : List ByteArray) (hT : spell_Taken.f k l1 = some T) => spell_Taken.calls k A1 c1 l1 T W (Kd.C_below hr1 hb) hc1 hT)
 have HS := Aside0.mk (fun (W : World) (hb : Below w.heap.size w W) (P : List (List UInt8 × S32)) (hP : spell_spelled.f k l1 = some P) => spell_spelled.calls k A1 c1 l1 P W (Kd.C_below hr1 hb) hc1 hP)
 obtain ⟨m, hm⟩ : ∃ m, l1.length = m := ⟨_, rfl⟩
 rw [hm] at HT HS ⊢
 clear hr1 hc1 hm hkd
 have HB := Aside0.mk (Below.refl w.heap.size w)
 by_cases h6 : kd = 6
 ·subst h6
  rw [if_pos rfl] at h
  obtain ⟨T, hT, h⟩ := Option.bind_eq_some_iff.1 h
  have HTT := Aside0.mk (fun (W : World) (hb : Below w.heap.size w W) => HT.out W hb T hT)
  have HF := Aside0.mk (fun (A : Option Addr) (c : Nat) (W : World) (hr : Kd.C Kd.string W A T.length T) (hc : T.length ≤ c) (hb : Below w.heap.size w W) => name_Fresh.calls k 1 A c T r1 r2 W hr hc h (tab_below HTAB.out hb))
  obtain ⟨nt, hnt⟩ : ∃ nt, T.length = nt := ⟨_, rfl⟩
  have HNT := Lib.hid hnt
  rw [hnt] at HF
  clear h hT HT HS hnt
  go_enter Tryz.func6, Tryz.ntmps6
  go_wp2_with (first | (go_at_call 15; with_reducible refine (HK.out _).mono ?_; rintro e w2 ⟨rfl, hb⟩; have HB_ := Aside0.mk (below_step HB.out hb); clear HB hb; have HB := HB_; clear HB_) | (go_at_call 12; with_reducible refine (HTT.out _ HB.out).mono ?_; rintro e w3 ⟨v, rfl, hR, hb⟩; have HB_ := Aside0.mk (below_step HB.out hb); clear HB hb; have HB := HB_; clear HB_; obtain ⟨AT, cT, eT⟩ := Kd.R_slice hR; rw [HNT.out] at eT; subst eT; have HR := Aside0.mk hR; clear hR) | (go_at_call 16; with_reducible refine (HF.out AT cT _ ?q1 ?q2 HB.out).mono ?_; (case q1 => have := (Kd.R_reads' HR.out).2.2; rwa [HNT.out] at this); (case q2 => exact (Kd.R_reads' HR.out).2.1); rintro e w4 ⟨rfl, hb⟩; have HB_ := Aside0.mk (below_step HB.out hb); clear HB hb; have HB := HB_; clear HB_))
  go_ret2
  exact ⟨rfl, HB.out⟩
 ·by_cases h7 : kd = 7
  ·subst h7
   rw [if_neg (by decide), if_pos rfl] at h
   obtain ⟨T, hT, h⟩ := Option.bind_eq_some_iff.1 h
   have HTT := Aside0.mk (fun (W : World) (hb : Below w.heap.size w W) => HT.out W hb T hT)
   have HF := Aside0.mk (fun (A : Option Addr) (c : Nat) (W : World) (hr : Kd.C Kd.string W A T.length T) (hc : T.length ≤ c) (hb : Below w.heap.size w W) => name_Fresh.calls k 4 A c T r1 r2 W hr hc h (tab_below HTAB.out hb))
   obtain ⟨nt, hnt⟩ : ∃ nt, T.length = nt := ⟨_, rfl⟩
   have HNT := Lib.hid hnt
   rw [hnt] at HF
   clear h hT HT HS hnt
   go_enter Tryz.func6, Tryz.ntmps6
   go_wp2_with (first | (go_at_call 15; with_reducible refine (HK.out _).mono ?_; rintro e w2 ⟨rfl, hb⟩; have HB_ := Aside0.mk (below_step HB.out hb); clear HB hb; have HB := HB_; clear HB_) | (go_at_call 12; with_reducible refine (HTT.out _ HB.out).mono ?_; rintro e w3 ⟨v, rfl, hR, hb⟩; have HB_ := Aside0.mk (below_step HB.out hb); clear HB hb; have HB := HB_; clear HB_; obtain ⟨AT, cT, eT⟩ := Kd.R_slice hR; rw [HNT.out] at eT; subst eT; have HR := Aside0.mk hR; clear hR) | (go_at_call 16; with_reducible refine (HF.out AT cT _ ?q1 ?q2 HB.out).mono ?_; (case q1 => have := (Kd.R_reads' HR.out).2.2; rwa [HNT.out] at this); (case q2 => exact (Kd.R_reads' HR.out).2.1); rintro e w4 ⟨rfl, hb⟩; have HB_ := Aside0.mk (below_step HB.out hb); clear HB hb; have HB := HB_; clear HB_))
   go_ret2
   exact ⟨rfl, HB.out⟩
  ·by_cases h9 : kd = 9
   ·subst h9
    rw [if_neg (by decide), if_neg (by decide), if_pos rfl] at h
    obtain ⟨P, hP, h⟩ := Option.bind_eq_some_iff.1 h
    by_cases h1 : 1 ≤ a0.size
    case neg => rw [if_neg h1] at h; cases h
    rw [if_pos h1] at h
    obtain ⟨s, hs, h⟩ := Option.bind_eq_some_iff.1 h
    simp only [Option.some.injEq, Prod.mk.injEq] at h
    obtain ⟨rfl, rfl⟩ := h
    have HSS := Aside0.mk (fun (W : World) (hb : Below w.heap.size w W) => HS.out W hb P hP)
    have h1z : (1 : Int) ≤ (a0.size : Int) := by omega
    have hz1 : decide ((1 : Int) ≤ (a0.size : Int)) = true := decide_eq_true h1z
    obtain ⟨c, hc⟩ : ∃ c, a0.extract 0 1 = c := ⟨_, rfl⟩
    have hc1 : c.size = 1 := by
     rw [← hc, ByteArray.size_extract]
     omega
    rw [hc] at hs
    have hm0 : ¬ 9223372036854775807 < c.size + c.size := by omega
    have HL := Lib.hid hs
    have HC1 := Lib.hid hc1
    have HC := hc
    clear hs hP HT HS hc1 h1
    go_enter Tryz.func6, Tryz.ntmps6
    go_wp2_with (first | (go_at_call 15; with_reducible refine (HK.out _).mono ?_; rintro e w2 ⟨rfl, hb⟩; have HB_ := Aside0.mk (below_step HB.out hb); clear HB hb; have HB := HB_; clear HB_) | (go_at_call 17; with_reducible refine (HSS.out _ HB.out).mono ?_; rintro e w3 ⟨b, n, D, V, rfl, hn, hG⟩; have HG := Aside0.mk hG; have HB_ := Aside0.mk (below_step HB.out hG.below); clear HB hG hn; have HB := HB_; clear HB_))
    refine wp_region_held_drew (S := (fun _ => True)) (by kernel_rfl) trivial (fun hHeld => ?_)
    refine wpAnyH_take (i := 0) (oi := ?o0) (v := ?v0) ?hi0 (by kernel_rfl) (by kernel_rfl) (by kernel_rfl) ?hQ0 ?hy0 (by assumption) ?rest0
    case hi0 => simp only [List.getElem?_toArray, List.getElem?_cons_succ, List.getElem?_cons_zero] <;> rfl
    case hQ0 => exact fun _ _ _ h => h
    case hy0 => exact Or.inl ⟨by kernel_rfl, by intro w hSw; (try dsimp only at hSw); go_simp; with_reducible rfl⟩
    try simp only [Act.put, List.setIfInBounds_toArray, List.set_cons_zero, List.set_cons_succ]
    refine wpAnyH_take (i := 1) (oi := ?o1) (v := ?v1) ?hi1 (by kernel_rfl) (by kernel_rfl) (by kernel_rfl) ?hQ1 ?hy1 (by assumption) ?rest1
    case hi1 => simp only [List.getElem?_toArray, List.getElem?_cons_succ, List.getElem?_cons_zero] <;> rfl
    case hQ1 => exact fun _ _ _ h => h
    case hy1 => exact Or.inl ⟨by kernel_rfl, by intro w hSw; (try dsimp only at hSw); go_simp; with_reducible rfl⟩
    try simp only [Act.put, List.setIfInBounds_toArray, List.set_cons_zero, List.set_cons_succ]
    refine wpAnyH_take (i := 2) (oi := ?o2) (v := ?v2) ?hi2 (by kernel_rfl) (by kernel_rfl) (by kernel_rfl) ?hQ2 ?hy2 (by assumption) ?rest2
    case hi2 => simp only [List.getElem?_toArray, List.getElem?_cons_succ, List.getElem?_cons_zero] <;> rfl
    case hQ2 => exact fun _ _ _ h => h
    case hy2 => exact Or.inl ⟨by kernel_rfl, by intro w hSw; (try dsimp only at hSw); go_simp; with_reducible rfl⟩
    try simp only [Act.put, List.setIfInBounds_toArray, List.set_cons_zero, List.set_cons_succ]
    refine wpAnyH_take (i := 3) (oi := ?o3) (v := ?v3) ?hi3 (by kernel_rfl) (by kernel_rfl) (by kernel_rfl) ?hQ3 ?hy3 (by assumption) ?rest3
    case hi3 => simp only [List.getElem?_toArray, List.getElem?_cons_succ, List.getElem?_cons_zero] <;> rfl
    case hQ3 => exact fun _ _ _ h => h
    case hy3 => exact Or.inl ⟨by kernel_rfl, by intro w hSw; (try dsimp only at hSw); go_simp; with_reducible rfl⟩
    try simp only [Act.put, List.setIfInBounds_toArray, List.set_cons_zero, List.set_cons_succ]
    refine wpAnyH_take (i := 4) (oi := ?o4) (v := ?v4) ?hi4 (by kernel_rfl) (by kernel_rfl) (by kernel_rfl) ?hQ4 ?hy4 (by assumption) ?rest4
    case hi4 => simp only [List.getElem?_toArray, List.getElem?_cons_succ, List.getElem?_cons_zero] <;> rfl
    case hQ4 => exact fun _ _ _ h => h
    case hy4 => exact Or.inl ⟨by kernel_rfl, by intro w hSw; (try dsimp only at hSw); go_simp; with_reducible rfl⟩
    try simp only [Act.put, List.setIfInBounds_toArray, List.set_cons_zero, List.set_cons_succ]
    refine wpAnyH_take (i := 5) (oi := ?o5) (v := ?v5) ?hi5 (by kernel_rfl) (by kernel_rfl) (by kernel_rfl) ?hQ5 ?hy5 (by assumption) ?rest5
    case hi5 => simp only [List.getElem?_toArray, List.getElem?_cons_succ, List.getElem?_cons_zero] <;> rfl
    case hQ5 => exact fun _ _ _ h => h
    case hy5 => exact Or.inl ⟨by kernel_rfl, by intro w hSw; (try dsimp only at hSw); go_simp; with_reducible rfl⟩
    try simp only [Act.put, List.setIfInBounds_toArray, List.set_cons_zero, List.set_cons_succ]
    refine wpAnyH_done (by kernel_rfl) ?_ _
    have HG_ := Aside0.mk (HG.out.step (below_drew (Below.refl w3.heap.size w3)))
    have HB_ := Aside0.mk (below_drew1 HB.out)
    clear HG HB hHeld
    have HG := HG_
    have HB := HB_
    clear HG_ HB_
    go_wp2_with fail
    generalize w3.drew = w4 at *
    go_loopg [7] k (fun gg v7 wr => ∃ y : ByteArray, v7 = .string y ∧ Hid (frLoop k a0 c P gg y = some s) ∧ Aside0 (GMp w2 wr b n D V (Gp P)) ∧ Aside0 (Below w.heap.size w wr))
    case atStart => exact ⟨_, rfl, HL, HG, HB⟩
    case round =>
     clear HL HG HB
     obtain ⟨y, rfl, HL, HG, HB⟩ := hrel
     cases gk with
     | zero => exact absurd HL.out (by simp [frLoop])
     | succ g =>
      have hl := HL.out
      unfold frLoop at hl
      by_cases hys : y.size ≤ 1000000
      case neg => rw [if_neg hys] at hl; cases hl
      rw [if_pos hys] at hl
      obtain ⟨t, ht, hl⟩ := Option.bind_eq_some_iff.1 hl
      have HAL := Aside0.mk (fun (W : World) => name_Alike.calls k y a0 t W ht)
      have hks : y.size ≤ maxLen := by unfold maxLen; omega
      have hm1 : ¬ 9223372036854775807 < y.size + c.size := by rw [HC1.out]; omega
      clear ht HL
      cases t with
      | true =>
       rw [if_pos rfl] at hl
       obtain ⟨nV, hnV⟩ : ∃ nV, (Gp P y.data.toList).length = nV := ⟨_, rfl⟩
       rw [hnV] at hl
       have HNV := Lib.hid hnV
       clear hnV
       by_cases h0 : nV = 0
       ·rw [if_pos h0] at hl
        obtain rfl := Option.some.inj hl
        subst h0
        have HCL := Aside0.mk (fun (W : World) => clone_calls y W hys)
        clear hl
        go_wp2_with (first | (go_at_call 18; with_reducible refine (HAL.out _).mono ?_; rintro e w9 ⟨rfl, hb⟩; have HG_ := Aside0.mk (HG.out.step hb); have HB_ := Aside0.mk (below_step HB.out hb); clear HG HB hb; have HG := HG_; have HB := HB_; clear HG_ HB_; have hlk := HG.out.look y hks; have hrow := HG.out.row y.data.toList; obtain ⟨AV, cV, eV⟩ := Kd.R_slice hrow; rw [HNV.out] at eV; rw [eV] at hlk; clear hrow eV) | (go_at_call 19; with_reducible refine (HCL.out _).mono ?_; rintro e w10 ⟨rfl, hb⟩; have HB_ := Aside0.mk (below_step HB.out hb); clear HB hb; have HB := HB_; clear HB_))
        go_ret2
        exact ⟨rfl, HB.out⟩
       ·rw [if_neg h0] at hl
        have hn1 : (0 : Int) < (nV : Int) := by omega
        have hn2 : decide ((0 : Int) < (nV : Int)) = true := decide_eq_true hn1
        have hn3 : decide ((nV : Int) > 0) = true := decide_eq_true hn1
        have HL := Lib.hid hl
        clear hl
        go_wp2_with (go_at_call 18; with_reducible refine (HAL.out _).mono ?_; rintro e w9 ⟨rfl, hb⟩; have HG_ := Aside0.mk (HG.out.step hb); have HB_ := Aside0.mk (below_step HB.out hb); clear HG HB hb; have HG := HG_; have HB := HB_; clear HG_ HB_; have hlk := HG.out.look y hks; have hrow := HG.out.row y.data.toList; obtain ⟨AV, cV, eV⟩ := Kd.R_slice hrow; rw [HNV.out] at eV; rw [eV] at hlk; clear hrow eV)
        go_roundg g
        case measure => omega
        case rel => exact ⟨_, rfl, HL, HG, HB⟩
      | false =>
       rw [if_neg Bool.false_ne_true] at hl
       have HL := Lib.hid hl
       clear hl
       go_wp2_with (go_at_call 18; with_reducible refine (HAL.out _).mono ?_; rintro e w9 ⟨rfl, hb⟩; have HG_ := Aside0.mk (HG.out.step hb); have HB_ := Aside0.mk (below_step HB.out hb); clear HG HB hb; have HG := HG_; have HB := HB_; clear HG_ HB_)
       go_roundg g
       case measure => omega
       case rel => exact ⟨_, rfl, HL, HG, HB⟩
   ·rw [if_neg h6, if_neg h7, if_neg h9] at h
    simp only [Option.some.injEq, Prod.mk.injEq] at h
    obtain ⟨rfl, rfl⟩ := h
    have b6 : (kd == 6) = false := beq_eq_false_iff_ne.2 h6
    have b7 : (kd == 7) = false := beq_eq_false_iff_ne.2 h7
    have b9 : (kd == 9) = false := beq_eq_false_iff_ne.2 h9
    clear HT HS
    go_enter Tryz.func6, Tryz.ntmps6
    go_wp2_with (go_at_call 15; with_reducible refine (HK.out _).mono ?_; rintro e w2 ⟨rfl, hb⟩; have HB_ := Aside0.mk (below_step HB.out hb); clear HB hb; have HB := HB_; clear HB_)
    go_ret2
    exact ⟨rfl, HB.out⟩

end Go.Proofs.YtfccifekaokibaaGreatDoor.QT

