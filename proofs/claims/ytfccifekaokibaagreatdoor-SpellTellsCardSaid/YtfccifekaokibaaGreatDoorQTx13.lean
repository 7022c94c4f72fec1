-- Laid by this claim's own program (mprint.py in the repo).
import Derived.Test.YtfccifekaokibaaGreatDoorQTx0
import Derived.Test.YtfccifekaokibaaGreatDoorQTx12
namespace Go.Proofs.YtfccifekaokibaaGreatDoor.QT
open Go.RowKit Go.Proofs.YtfccifekaokibaaGreatDoorW.PrintWords Go.Proofs.YtfccifekaokibaaGreatDoorW.PrintLast Go.Proofs.YtfccifekaokibaaGreatDoorW.PrintMore
attribute [local go_sem] max2_int min2_int max_two min_two max_three min_three max_four min_four   -- for this text's walks alone
set_option linter.unusedVariables false
set_option linter.unusedSimpArgs false

/-! ### orielref04_Kind: function 10 -/
mutual
def orielref04_Kind.l0 : Nat → ByteArray → Bool → Bool → Int → Option (Int)
 | 0, _, _, _, _ => none
 | k + 1, x0, x3, x4, x5 => if x5 < (x0.size : Int) then (if x3 = true then (if 0 ≤ x5 then ((orielref04_Rest.f (bt x0 x5)).bind fun t203 => (if x4 = true then ((orielref04_Signs.f k (bt x0 x5)).bind fun t204 => (orielref04_Kind.l0 k x0 t203 t204 (wrap64 (x5 + 1)))) else (orielref04_Kind.l0 k x0 t203 false (wrap64 (x5 + 1))))) else (none)) else (if x4 = true then (if 0 ≤ x5 then ((orielref04_Signs.f k (bt x0 x5)).bind fun t205 => (orielref04_Kind.l0 k x0 false t205 (wrap64 (x5 + 1)))) else (none)) else (orielref04_Kind.l0 k x0 false false (wrap64 (x5 + 1))))) else (if x4 = true then (some 9) else (if x3 = true then (if 0 < (x0.size : Int) then ((orielref04_Great.f (bt x0 0)).bind fun t206 => (if t206 = true then (some 7) else (if (bt x0 0) = 39 then (if (x0.size : Int) > 1 then (if 1 < (x0.size : Int) then ((orielref04_Small.f (bt x0 1)).bind fun t207 => (orielref04_Kind.j1 k x0 t207)) else (none)) else (orielref04_Kind.j1 k x0 false)) else (orielref04_Kind.j1 k x0 false)))) else (none)) else (some 0)))
def orielref04_Kind.j1 : Nat → ByteArray → Bool → Option (Int)
 | 0, _, _ => none
 | k + 1, x0, x49 => if x49 = true then (some 8) else (if 0 < (x0.size : Int) then ((orielref04_Small.f (bt x0 0)).bind fun t208 => (if t208 = true then ((orielref04_Keywords.f).bind fun t209 => ((orielref04_In.f k t209 x0).bind fun t212 => (if t212 = true then (some 10) else (some 6)))) else (some 0))) else (none))
end
def orielref04_Kind.f (k : Nat) (a0 : ByteArray) : Option (Int) := if a0.toList = ([] : List UInt8) then (some 0) else ((orielref04_Marks.f).bind fun t199 => ((orielref04_In.f k t199 a0).bind fun t202 => (if t202 = true then (some 11) else (orielref04_Kind.l0 k a0 true true 0))))
theorem orielref04_Kind.mono_l : ∀ k, (∀ y0 y1 y2 y3, LeO (orielref04_Kind.l0 k y0 y1 y2 y3) (orielref04_Kind.l0 (k + 1) y0 y1 y2 y3)) ∧ (∀ y0 y1, LeO (orielref04_Kind.j1 k y0 y1) (orielref04_Kind.j1 (k + 1) y0 y1))
 | 0 => ⟨fun _ _ _ _ r h => by simp [orielref04_Kind.l0] at h, fun _ _ r h => by simp [orielref04_Kind.j1] at h⟩
 | k + 1 => by
  obtain ⟨ih0, ih1⟩ := orielref04_Kind.mono_l k
  refine ⟨?_, ?_⟩
  ·intro y0 y1 y2 y3
   unfold orielref04_Kind.l0
   repeat' first
   | (with_reducible exact ih0 _ _ _ _)
   | (with_reducible exact ih1 _ _)
   | (with_reducible exact orielref04_Signs.mono _ _)
   | (with_reducible exact LeO.refl _)
   | (with_reducible refine LeO.ite ?_ ?_)
   | (with_reducible refine LeO.bind ?_ (fun _ => ?_))
  ·intro y0 y1
   unfold orielref04_Kind.j1
   repeat' first
   | (with_reducible exact orielref04_In.mono _ _ _)
   | (with_reducible exact LeO.refl _)
   | (with_reducible refine LeO.ite ?_ ?_)
   | (with_reducible refine LeO.bind ?_ (fun _ => ?_))
theorem orielref04_Kind.mono : ∀ a0 k, LeO (orielref04_Kind.f k a0) (orielref04_Kind.f (k + 1) a0) := by
 intro a0 k
 obtain ⟨ih0, ih1⟩ := orielref04_Kind.mono_l k
 unfold orielref04_Kind.f
 repeat' first
   | (with_reducible exact ih0 _ _ _ _)
   | (with_reducible exact orielref04_In.mono _ _ _)
   | (with_reducible exact LeO.refl _)
   | (with_reducible refine LeO.ite ?_ ?_)
   | (with_reducible refine LeO.bind ?_ (fun _ => ?_))
set_option maxHeartbeats 8000000 in
set_option maxRecDepth 100000 in
theorem orielref04_Kind.calls (k : Nat) (a0 : ByteArray) (r : Int) (w : World) (h : orielref04_Kind.f k a0 = some r) :
  Calls Tryz.prog 10 #[.string a0] w fun e w' => e = .returned (.int .i64 r) ∧ Below w.heap.size w w' := by
 have HB := Aside0.mk (Below.refl w.heap.size w)
 have H : (if a0.toList = ([] : List UInt8) then (some 0) else ((orielref04_Marks.f).bind fun t199 => ((orielref04_In.f k t199 a0).bind fun t202 => (if t202 = true then (some 11) else (orielref04_Kind.l0 k a0 true true 0))))) = some r := h
 clear h
 by_cases c2 : a0.toList = ([] : List UInt8)
 ·rw [if_pos c2] at H
  have c2b0 : (a0.toList == ([] : List UInt8)) = true := beq_iff_eq.mpr c2
  have c2b1 : (a0.toList != ([] : List UInt8)) = false := bne_eq_false_iff_eq.mpr c2
  clear c2
  obtain rfl := Option.some.inj H
  go_enter Tryz.func10, Tryz.ntmps10
  go_wp2
  go_ret
  exact ⟨by rfl, by repeat (with_reducible exact HB.out)⟩
 ·rw [if_neg c2] at H
  have c2b0 : (a0.toList == ([] : List UInt8)) = false := beq_eq_false_iff_ne.mpr c2
  have c2b1 : (a0.toList != ([] : List UInt8)) = true := bne_iff_ne.mpr c2
  replace H := Option.bind_eq_some_iff.mp H
  obtain ⟨t199, A30, H⟩ := H
  replace H : ((orielref04_In.f k t199 a0).bind fun t202 => (if t202 = true then (some 11) else (orielref04_Kind.l0 k a0 true true 0))) = some r := H
  have A3 := Aside0.mk A30
  clear A30
  replace H := Option.bind_eq_some_iff.mp H
  obtain ⟨t202, A40, H⟩ := H
  replace H : (if t202 = true then (some 11) else (orielref04_Kind.l0 k a0 true true 0)) = some r := H
  have A4 := Aside0.mk A40
  clear A40
  by_cases c5 : t202 = true
  ·subst c5
   have H1 : (some 11) = some r := by rw [if_pos rfl] at H; exact H
   clear H
   have H := H1
   clear H1
   obtain rfl := Option.some.inj H
   go_enter Tryz.func10, Tryz.ntmps10
   go_wp2_with (first | ((with_reducible refine gate_callee (f := 24) rfl ?_); refine goesL_ (some 8) rfl rfl Tryz.func24 (by kernel_rfl) rfl #[] rfl (by (try simp only [List.map_toArray, List.map_cons, List.map_nil]); done) ?_; (with_reducible refine (orielref04_Marks.calls  t199 _ A3.out).mono ?_); rintro e w6 ⟨v200, rfl, ho0, hb⟩; refine ⟨_, rfl, ?_⟩; have n0_ := Aside0.mk (Kd.R_lower ho0 (below_size (by repeat (with_reducible exact HB.out)))); have n1_ := Aside0.mk (below_step (by repeat (with_reducible exact HB.out)) hb); clear HB; have HO201 := n0_; have HB := n1_; clear n0_ n1_; (try clear hb); (try clear hb2); (try clear hk); (try clear hi); (try clear ho0); obtain ⟨Ao7, co7, eo7⟩ := Kd.R_slice HO201.out; subst eo7) | ((with_reducible refine gate_callee (f := 22) rfl ?_); refine goesL_ (some 10) rfl rfl Tryz.func22 (by kernel_rfl) rfl #[.slice Ao7 t199.length co7, .string a0] rfl (by (try simp only [List.map_toArray, List.map_cons, List.map_nil]); rfl) ?_; (with_reducible refine (orielref04_In.calls k _ _ t199 a0 true _ ?side1 ?side2 A4.out).mono ?_); (case side1 => repeat (exact (Kd.R_reads' HO201.out).2.2)); (case side2 => exact (Kd.R_reads' HO201.out).2.1); rintro e w' ⟨rfl, ⟨nd, rfl⟩⟩; refine ⟨_, rfl, ?_⟩))
   go_ret
   exact ⟨by rfl, by repeat ((with_reducible first | exact HB.out | apply pw_below_drewN ))⟩
  ·replace c5 := Bool.eq_false_iff.mpr c5
   subst c5
   have H1 : (orielref04_Kind.l0 k a0 true true 0) = some r := by rw [if_neg (show ¬ (false = true) by decide)] at H; exact H
   clear H
   have H := H1
   clear H1
   have H' := Aside0.mk H
   clear H
   go_enter Tryz.func10, Tryz.ntmps10
   go_wp2_with (first | ((with_reducible refine gate_callee (f := 24) rfl ?_); refine goesL_ (some 8) rfl rfl Tryz.func24 (by kernel_rfl) rfl #[] rfl (by (try simp only [List.map_toArray, List.map_cons, List.map_nil]); done) ?_; (with_reducible refine (orielref04_Marks.calls  t199 _ A3.out).mono ?_); rintro e w8 ⟨v200, rfl, ho0, hb⟩; refine ⟨_, rfl, ?_⟩; have n0_ := Aside0.mk (Kd.R_lower ho0 (below_size (by repeat (with_reducible exact HB.out)))); have n1_ := Aside0.mk (below_step (by repeat (with_reducible exact HB.out)) hb); clear HB; have HO201 := n0_; have HB := n1_; clear n0_ n1_; (try clear hb); (try clear hb2); (try clear hk); (try clear hi); (try clear ho0); obtain ⟨Ao9, co9, eo9⟩ := Kd.R_slice HO201.out; subst eo9) | ((with_reducible refine gate_callee (f := 22) rfl ?_); refine goesL_ (some 10) rfl rfl Tryz.func22 (by kernel_rfl) rfl #[.slice Ao9 t199.length co9, .string a0] rfl (by (try simp only [List.map_toArray, List.map_cons, List.map_nil]); rfl) ?_; (with_reducible refine (orielref04_In.calls k _ _ t199 a0 false _ ?side1 ?side2 A4.out).mono ?_); (case side1 => repeat (exact (Kd.R_reads' HO201.out).2.2)); (case side2 => exact (Kd.R_reads' HO201.out).2.1); rintro e w' ⟨rfl, ⟨nd, rfl⟩⟩; refine ⟨_, rfl, ?_⟩))
   go_loopg [3, 4, 5] k (fun kq v3 v4 v5 w' => ∃ (x3_1 : Bool) (x4_1 : Bool) (x5_1 : Int), v3 = .bool x3_1 ∧ v4 = .bool x4_1 ∧ v5 = .int .i64 x5_1 ∧ Aside0 (orielref04_Kind.l0 kq a0 x3_1 x4_1 x5_1 = some r) ∧ Aside0 (kq ≤ k) ∧ Aside0 (Below w.heap.size w w'))
   case atStart => exact ⟨(true), (true), (0), (by rfl), (by rfl), (by rfl), H', ⟨Nat.le_refl _⟩, ⟨by repeat ((with_reducible first | exact HB.out | apply pw_below_drewN ))⟩⟩
   case round =>
    clear H'
    clear c2 c2b0 c2b1
    obtain ⟨x3_1, x4_1, x5_1, rfl, rfl, rfl, HA, HK1, HB⟩ := hrel
    cases gk with
    | zero => exact absurd HA.out (by simp [orielref04_Kind.l0])
    | succ k1 =>
     have H := HA.out
     clear HA
     simp only [orielref04_Kind.l0] at H
     by_cases c10 : x5_1 < (a0.size : Int)
     ·rw [if_pos c10] at H
      have c10b0 : decide (x5_1 < (a0.size : Int)) = true := decide_eq_true c10
      clear c10
      by_cases c11 : x3_1 = true
      ·subst c11
       have H1 : (if 0 ≤ x5_1 then ((orielref04_Rest.f (bt a0 x5_1)).bind fun t203 => (if x4_1 = true then ((orielref04_Signs.f k1 (bt a0 x5_1)).bind fun t204 => (orielref04_Kind.l0 k1 a0 t203 t204 (wrap64 (x5_1 + 1)))) else (orielref04_Kind.l0 k1 a0 t203 false (wrap64 (x5_1 + 1))))) else (none)) = some r := by rw [if_pos rfl] at H; exact H
       clear H
       have H := H1
       clear H1
       by_cases c12 : 0 ≤ x5_1
       ·rw [if_pos c12] at H
        have c12b0 : decide (0 ≤ x5_1) = true := decide_eq_true c12
        clear c12
        replace H := Option.bind_eq_some_iff.mp H
        obtain ⟨t203, A140, H⟩ := H
        replace H : (if x4_1 = true then ((orielref04_Signs.f k1 (bt a0 x5_1)).bind fun t204 => (orielref04_Kind.l0 k1 a0 t203 t204 (wrap64 (x5_1 + 1)))) else (orielref04_Kind.l0 k1 a0 t203 false (wrap64 (x5_1 + 1)))) = some r := H
        have A14 := Aside0.mk A140
        clear A140
        by_cases c15 : x4_1 = true
        ·subst c15
         have H1 : ((orielref04_Signs.f k1 (bt a0 x5_1)).bind fun t204 => (orielref04_Kind.l0 k1 a0 t203 t204 (wrap64 (x5_1 + 1)))) = some r := by rw [if_pos rfl] at H; exact H
         clear H
         have H := H1
         clear H1
         replace H := Option.bind_eq_some_iff.mp H
         obtain ⟨t204, A170, H⟩ := H
         replace H : (orielref04_Kind.l0 k1 a0 t203 t204 (wrap64 (x5_1 + 1))) = some r := H
         have A17 := Aside0.mk A170
         clear A170
         have H' := Aside0.mk H
         clear H
         have p13 : 0 ≤ (x5_1 : Int) := of_decide_eq_true (by with_reducible assumption)
         have q13 : x5_1 < (a0.size : Int) := of_decide_eq_true (by with_reducible assumption)
         have hx13 := bt_at a0 x5_1
         replace p13 := eq_true p13
         replace q13 := eq_true q13
         go_wp2_with (first | (go_at_call 25; (with_reducible refine (orielref04_Rest.calls (bt a0 x5_1) t203 _ A14.out).mono ?_); rintro e w' ⟨rfl, ⟨nd, rfl⟩⟩; have p16 : 0 ≤ (x5_1 : Int) := of_decide_eq_true (by with_reducible assumption); have q16 : x5_1 < (a0.size : Int) := of_decide_eq_true (by with_reducible assumption); have hx16 := bt_at a0 x5_1; replace p16 := eq_true p16; replace q16 := eq_true q16) | (go_at_call 26; (with_reducible refine (orielref04_Signs.calls k1 (bt a0 x5_1) t204 _ A17.out).mono ?_); rintro e w' ⟨rfl, ⟨nd, rfl⟩⟩))
         go_roundg k1
         case measure => have := HK1.out; omega
         case rel => exact ⟨(t203), (t204), (wrap64 (x5_1 + 1)), (by rfl), (by rfl), (by rfl), H', ⟨by have := HK1.out; omega⟩, ⟨by repeat ((with_reducible first | exact HB.out | apply pw_below_drewN ))⟩⟩
        ·replace c15 := Bool.eq_false_iff.mpr c15
         subst c15
         have H1 : (orielref04_Kind.l0 k1 a0 t203 false (wrap64 (x5_1 + 1))) = some r := by rw [if_neg (show ¬ (false = true) by decide)] at H; exact H
         clear H
         have H := H1
         clear H1
         have H' := Aside0.mk H
         clear H
         have p13 : 0 ≤ (x5_1 : Int) := of_decide_eq_true (by with_reducible assumption)
         have q13 : x5_1 < (a0.size : Int) := of_decide_eq_true (by with_reducible assumption)
         have hx13 := bt_at a0 x5_1
         replace p13 := eq_true p13
         replace q13 := eq_true q13
         go_wp2_with ((go_at_call 25; (with_reducible refine (orielref04_Rest.calls (bt a0 x5_1) t203 _ A14.out).mono ?_); rintro e w' ⟨rfl, ⟨nd, rfl⟩⟩))
         go_roundg k1
         case measure => have := HK1.out; omega
         case rel => exact ⟨(t203), (false), (wrap64 (x5_1 + 1)), (by rfl), (by rfl), (by rfl), H', ⟨by have := HK1.out; omega⟩, ⟨by repeat ((with_reducible first | exact HB.out | apply pw_below_drewN ))⟩⟩
       ·rw [if_neg c12] at H
        exact absurd H (by simp)
      ·replace c11 := Bool.eq_false_iff.mpr c11
       subst c11
       have H1 : (if x4_1 = true then (if 0 ≤ x5_1 then ((orielref04_Signs.f k1 (bt a0 x5_1)).bind fun t205 => (orielref04_Kind.l0 k1 a0 false t205 (wrap64 (x5_1 + 1)))) else (none)) else (orielref04_Kind.l0 k1 a0 false false (wrap64 (x5_1 + 1)))) = some r := by rw [if_neg (show ¬ (false = true) by decide)] at H; exact H
       clear H
       have H := H1
       clear H1
       by_cases c18 : x4_1 = true
       ·subst c18
        have H1 : (if 0 ≤ x5_1 then ((orielref04_Signs.f k1 (bt a0 x5_1)).bind fun t205 => (orielref04_Kind.l0 k1 a0 false t205 (wrap64 (x5_1 + 1)))) else (none)) = some r := by rw [if_pos rfl] at H; exact H
        clear H
        have H := H1
        clear H1
        by_cases c19 : 0 ≤ x5_1
        ·rw [if_pos c19] at H
         have c19b0 : decide (0 ≤ x5_1) = true := decide_eq_true c19
         clear c19
         replace H := Option.bind_eq_some_iff.mp H
         obtain ⟨t205, A210, H⟩ := H
         replace H : (orielref04_Kind.l0 k1 a0 false t205 (wrap64 (x5_1 + 1))) = some r := H
         have A21 := Aside0.mk A210
         clear A210
         have H' := Aside0.mk H
         clear H
         have p20 : 0 ≤ (x5_1 : Int) := of_decide_eq_true (by with_reducible assumption)
         have q20 : x5_1 < (a0.size : Int) := of_decide_eq_true (by with_reducible assumption)
         have hx20 := bt_at a0 x5_1
         replace p20 := eq_true p20
         replace q20 := eq_true q20
         go_wp2_with ((go_at_call 26; (with_reducible refine (orielref04_Signs.calls k1 (bt a0 x5_1) t205 _ A21.out).mono ?_); rintro e w' ⟨rfl, ⟨nd, rfl⟩⟩))
         go_roundg k1
         case measure => have := HK1.out; omega
         case rel => exact ⟨(false), (t205), (wrap64 (x5_1 + 1)), (by rfl), (by rfl), (by rfl), H', ⟨by have := HK1.out; omega⟩, ⟨by repeat ((with_reducible first | exact HB.out | apply pw_below_drewN ))⟩⟩
        ·rw [if_neg c19] at H
         exact absurd H (by simp)
       ·replace c18 := Bool.eq_false_iff.mpr c18
        subst c18
        have H1 : (orielref04_Kind.l0 k1 a0 false false (wrap64 (x5_1 + 1))) = some r := by rw [if_neg (show ¬ (false = true) by decide)] at H; exact H
        clear H
        have H := H1
        clear H1
        have H' := Aside0.mk H
        clear H
        go_wp2
        go_roundg k1
        case measure => have := HK1.out; omega
        case rel => exact ⟨(false), (false), (wrap64 (x5_1 + 1)), (by rfl), (by rfl), (by rfl), H', ⟨by have := HK1.out; omega⟩, ⟨by repeat (with_reducible exact HB.out)⟩⟩
     ·rw [if_neg c10] at H
      have c10b0 : decide (x5_1 < (a0.size : Int)) = false := decide_eq_false c10
      clear c10
      by_cases c22 : x4_1 = true
      ·subst c22
       have H1 : (some 9) = some r := by rw [if_pos rfl] at H; exact H
       clear H
       have H := H1
       clear H1
       obtain rfl := Option.some.inj H
       go_wp2
       go_ret
       exact ⟨by rfl, by repeat (with_reducible exact HB.out)⟩
      ·replace c22 := Bool.eq_false_iff.mpr c22
       subst c22
       have H1 : (if x3_1 = true then (if 0 < (a0.size : Int) then ((orielref04_Great.f (bt a0 0)).bind fun t206 => (if t206 = true then (some 7) else (if (bt a0 0) = 39 then (if (a0.size : Int) > 1 then (if 1 < (a0.size : Int) then ((orielref04_Small.f (bt a0 1)).bind fun t207 => (orielref04_Kind.j1 k1 a0 t207)) else (none)) else (orielref04_Kind.j1 k1 a0 false)) else (orielref04_Kind.j1 k1 a0 false)))) else (none)) else (some 0)) = some r := by rw [if_neg (show ¬ (false = true) by decide)] at H; exact H
       clear H
       have H := H1
       clear H1
       by_cases c23 : x3_1 = true
       ·subst c23
        have H1 : (if 0 < (a0.size : Int) then ((orielref04_Great.f (bt a0 0)).bind fun t206 => (if t206 = true then (some 7) else (if (bt a0 0) = 39 then (if (a0.size : Int) > 1 then (if 1 < (a0.size : Int) then ((orielref04_Small.f (bt a0 1)).bind fun t207 => (orielref04_Kind.j1 k1 a0 t207)) else (none)) else (orielref04_Kind.j1 k1 a0 false)) else (orielref04_Kind.j1 k1 a0 false)))) else (none)) = some r := by rw [if_pos rfl] at H; exact H
        clear H
        have H := H1
        clear H1
        by_cases c24 : 0 < (a0.size : Int)
        ·rw [if_pos c24] at H
         have c24b0 : decide (0 < (a0.size : Int)) = true := decide_eq_true c24
         have c24b1 : decide (0 < a0.size) = true := decide_eq_true (by omega)
         clear c24
         replace H := Option.bind_eq_some_iff.mp H
         obtain ⟨t206, A260, H⟩ := H
         replace H : (if t206 = true then (some 7) else (if (bt a0 0) = 39 then (if (a0.size : Int) > 1 then (if 1 < (a0.size : Int) then ((orielref04_Small.f (bt a0 1)).bind fun t207 => (orielref04_Kind.j1 k1 a0 t207)) else (none)) else (orielref04_Kind.j1 k1 a0 false)) else (orielref04_Kind.j1 k1 a0 false))) = some r := H
         have A26 := Aside0.mk A260
         clear A260
         by_cases c27 : t206 = true
         ·subst c27
          have H1 : (some 7) = some r := by rw [if_pos rfl] at H; exact H
          clear H
          have H := H1
          clear H1
          obtain rfl := Option.some.inj H
          have p25 : 0 ≤ (0 : Int) := (by omega)
          have q25 : 0 < a0.size := (by have : (0 : Int) < (a0.size : Int) := of_decide_eq_true (by with_reducible assumption); omega)
          have hx25 : ∀ h : 0 < a0.size, ((a0[0]'h).toNat : Int) = bt a0 0 := bt_at a0 0
          clear p25
          have qi25 : (0 < (a0.size : Int)) = True := eq_true (of_decide_eq_true (by with_reducible assumption))
          replace q25 := eq_true q25
          go_wp2_with (((with_reducible refine gate_callee (f := 27) rfl ?_); refine goesL_ (some 36) rfl rfl Tryz.func27 (by kernel_rfl) rfl #[.int .u8 (bt a0 0)] rfl (by (try simp only [List.map_toArray, List.map_cons, List.map_nil]); rfl) ?_; (with_reducible refine (orielref04_Great.calls (bt a0 0) true _ A26.out).mono ?_); rintro e w' ⟨rfl, ⟨nd, rfl⟩⟩; refine ⟨_, rfl, ?_⟩))
          go_ret
          exact ⟨by rfl, by repeat ((with_reducible first | exact HB.out | apply pw_below_drewN ))⟩
         ·replace c27 := Bool.eq_false_iff.mpr c27
          subst c27
          have H1 : (if (bt a0 0) = 39 then (if (a0.size : Int) > 1 then (if 1 < (a0.size : Int) then ((orielref04_Small.f (bt a0 1)).bind fun t207 => (orielref04_Kind.j1 k1 a0 t207)) else (none)) else (orielref04_Kind.j1 k1 a0 false)) else (orielref04_Kind.j1 k1 a0 false)) = some r := by rw [if_neg (show ¬ (false = true) by decide)] at H; exact H
          clear H
          have H := H1
          clear H1
          have HC28 := Aside0.mk H
          clear H
          have p25 : 0 ≤ (0 : Int) := (by omega)
          have q25 : 0 < a0.size := (by have : (0 : Int) < (a0.size : Int) := of_decide_eq_true (by with_reducible assumption); omega)
          have hx25 : ∀ h : 0 < a0.size, ((a0[0]'h).toNat : Int) = bt a0 0 := bt_at a0 0
          clear p25
          have qi25 : (0 < (a0.size : Int)) = True := eq_true (of_decide_eq_true (by with_reducible assumption))
          replace q25 := eq_true q25
          go_upto_region 17 with (((with_reducible refine gate_callee (f := 27) rfl ?_); refine goesL_ (some 36) rfl rfl Tryz.func27 (by kernel_rfl) rfl #[.int .u8 (bt a0 0)] rfl (by (try simp only [List.map_toArray, List.map_cons, List.map_nil]); rfl) ?_; (with_reducible refine (orielref04_Great.calls (bt a0 0) false _ A26.out).mono ?_); rintro e w' ⟨rfl, ⟨nd, rfl⟩⟩; refine ⟨_, rfl, ?_⟩))
          (try simp only [Act.put, List.setIfInBounds_toArray, List.set_cons_zero, List.set_cons_succ])
          go_cut [49] (fun v49 wc => ∃ (kq : Nat) (x49_27 : Bool), v49 = .bool x49_27 ∧ Aside0 (orielref04_Kind.j1 kq a0 x49_27 = some r) ∧ Aside0 (kq ≤ k1) ∧ Aside0 (Below w.heap.size w wc))
          case first =>
           have H := HC28.out
           clear HC28
           by_cases c30 : (bt a0 0) = 39
           ·rw [if_pos c30] at H
            have c30b0 : ((bt a0 0) == 39) = true := beq_iff_eq.mpr c30
            have c30b1 : ((bt a0 0) != 39) = false := bne_eq_false_iff_eq.mpr c30
            clear c30
            (skip)
            by_cases c31 : (a0.size : Int) > 1
            ·rw [if_pos c31] at H
             have c31b0 : decide (1 < (a0.size : Int)) = true := decide_eq_true c31
             have c31b1 : decide (1 < a0.size) = true := decide_eq_true (by omega)
             clear c31
             by_cases c32 : 1 < (a0.size : Int)
             ·rw [if_pos c32] at H
              have c32b0 : decide (1 < (a0.size : Int)) = true := decide_eq_true c32
              have c32b1 : decide (1 < a0.size) = true := decide_eq_true (by omega)
              clear c32
              replace H := Option.bind_eq_some_iff.mp H
              obtain ⟨t207, A340, H⟩ := H
              replace H : (orielref04_Kind.j1 k1 a0 t207) = some r := H
              have A34 := Aside0.mk A340
              clear A340
              have H' := Aside0.mk H
              clear H
              have p29 : 0 ≤ (0 : Int) := (by omega)
              have q29 : 0 < a0.size := (by have : (0 : Int) < (a0.size : Int) := of_decide_eq_true (by with_reducible assumption); omega)
              have hx29 : ∀ h : 0 < a0.size, ((a0[0]'h).toNat : Int) = bt a0 0 := bt_at a0 0
              clear p29
              have qi29 : (0 < (a0.size : Int)) = True := eq_true (of_decide_eq_true (by with_reducible assumption))
              replace q29 := eq_true q29
              have p33 : 0 ≤ (1 : Int) := (by omega)
              have q33 : 1 < a0.size := (by have : (1 : Int) < (a0.size : Int) := of_decide_eq_true (by with_reducible assumption); omega)
              have hx33 : ∀ h : 1 < a0.size, ((a0[1]'h).toNat : Int) = bt a0 1 := bt_at a0 1
              clear p33
              have qi33 : (1 < (a0.size : Int)) = True := eq_true (of_decide_eq_true (by with_reducible assumption))
              replace q33 := eq_true q33
              go_wp2_with ((go_at_call 28; (with_reducible refine (orielref04_Small.calls (bt a0 1) t207 _ A34.out).mono ?_); rintro e w' ⟨rfl, ⟨nd, rfl⟩⟩))
              go_meet
              case rel => exact ⟨_, (t207), (by rfl), H', ⟨by have := HK1.out; omega⟩, ⟨by repeat ((with_reducible first | exact HB.out | apply pw_below_drewN ))⟩⟩
             ·rw [if_neg c32] at H
              exact absurd H (by simp)
            ·rw [if_neg c31] at H
             have c31b0 : decide (1 < (a0.size : Int)) = false := decide_eq_false c31
             have c31b1 : decide (1 < a0.size) = false := decide_eq_false (by omega)
             clear c31
             have H' := Aside0.mk H
             clear H
             have p29 : 0 ≤ (0 : Int) := (by omega)
             have q29 : 0 < a0.size := (by have : (0 : Int) < (a0.size : Int) := of_decide_eq_true (by with_reducible assumption); omega)
             have hx29 : ∀ h : 0 < a0.size, ((a0[0]'h).toNat : Int) = bt a0 0 := bt_at a0 0
             clear p29
             have qi29 : (0 < (a0.size : Int)) = True := eq_true (of_decide_eq_true (by with_reducible assumption))
             replace q29 := eq_true q29
             go_wp2
             go_meet
             case rel => exact ⟨_, (false), (by rfl), H', ⟨by have := HK1.out; omega⟩, ⟨by repeat ((with_reducible first | exact HB.out | apply pw_below_drewN ))⟩⟩
           ·rw [if_neg c30] at H
            have c30b0 : ((bt a0 0) == 39) = false := beq_eq_false_iff_ne.mpr c30
            have c30b1 : ((bt a0 0) != 39) = true := bne_iff_ne.mpr c30
            (skip)
            have H' := Aside0.mk H
            clear H
            have p29 : 0 ≤ (0 : Int) := (by omega)
            have q29 : 0 < a0.size := (by have : (0 : Int) < (a0.size : Int) := of_decide_eq_true (by with_reducible assumption); omega)
            have hx29 : ∀ h : 0 < a0.size, ((a0[0]'h).toNat : Int) = bt a0 0 := bt_at a0 0
            clear p29
            have qi29 : (0 < (a0.size : Int)) = True := eq_true (of_decide_eq_true (by with_reducible assumption))
            replace q29 := eq_true q29
            go_wp2
            go_meet
            case rel => exact ⟨_, (false), (by rfl), H', ⟨by have := HK1.out; omega⟩, ⟨by repeat ((with_reducible first | exact HB.out | apply pw_below_drewN ))⟩⟩
          case rest =>
           clear HC28
           clear c10b0 c24b0 c24b1 q25 hx25 qi25
           obtain ⟨kq, x49_27, rfl, HA, HJ27, HB⟩ := hcut
           cases kq with
           | zero => exact absurd HA.out (by simp [orielref04_Kind.j1])
           | succ kj27 =>
            have H := HA.out
            clear HA
            simp only [orielref04_Kind.j1] at H
            by_cases c35 : x49_27 = true
            ·subst c35
             have H1 : (some 8) = some r := by rw [if_pos rfl] at H; exact H
             clear H
             have H := H1
             clear H1
             obtain rfl := Option.some.inj H
             go_wp2
             go_ret
             exact ⟨by rfl, by repeat (with_reducible exact HB.out)⟩
            ·replace c35 := Bool.eq_false_iff.mpr c35
             subst c35
             have H1 : (if 0 < (a0.size : Int) then ((orielref04_Small.f (bt a0 0)).bind fun t208 => (if t208 = true then ((orielref04_Keywords.f).bind fun t209 => ((orielref04_In.f kj27 t209 a0).bind fun t212 => (if t212 = true then (some 10) else (some 6)))) else (some 0))) else (none)) = some r := by rw [if_neg (show ¬ (false = true) by decide)] at H; exact H
             clear H
             have H := H1
             clear H1
             by_cases c36 : 0 < (a0.size : Int)
             ·rw [if_pos c36] at H
              have c36b0 : decide (0 < (a0.size : Int)) = true := decide_eq_true c36
              have c36b1 : decide (0 < a0.size) = true := decide_eq_true (by omega)
              clear c36
              replace H := Option.bind_eq_some_iff.mp H
              obtain ⟨t208, A380, H⟩ := H
              replace H : (if t208 = true then ((orielref04_Keywords.f).bind fun t209 => ((orielref04_In.f kj27 t209 a0).bind fun t212 => (if t212 = true then (some 10) else (some 6)))) else (some 0)) = some r := H
              have A38 := Aside0.mk A380
              clear A380
              by_cases c39 : t208 = true
              ·subst c39
               have H1 : ((orielref04_Keywords.f).bind fun t209 => ((orielref04_In.f kj27 t209 a0).bind fun t212 => (if t212 = true then (some 10) else (some 6)))) = some r := by rw [if_pos rfl] at H; exact H
               clear H
               have H := H1
               clear H1
               replace H := Option.bind_eq_some_iff.mp H
               obtain ⟨t209, A400, H⟩ := H
               replace H : ((orielref04_In.f kj27 t209 a0).bind fun t212 => (if t212 = true then (some 10) else (some 6))) = some r := H
               have A40 := Aside0.mk A400
               clear A400
               replace H := Option.bind_eq_some_iff.mp H
               obtain ⟨t212, A410, H⟩ := H
               replace H : (if t212 = true then (some 10) else (some 6)) = some r := H
               have A41 := Aside0.mk A410
               clear A410
               by_cases c42 : t212 = true
               ·subst c42
                have H1 : (some 10) = some r := by rw [if_pos rfl] at H; exact H
                clear H
                have H := H1
                clear H1
                obtain rfl := Option.some.inj H
                have p37 : 0 ≤ (0 : Int) := (by omega)
                have q37 : 0 < a0.size := (by have : (0 : Int) < (a0.size : Int) := of_decide_eq_true (by with_reducible assumption); omega)
                have hx37 : ∀ h : 0 < a0.size, ((a0[0]'h).toNat : Int) = bt a0 0 := bt_at a0 0
                clear p37
                have qi37 : (0 < (a0.size : Int)) = True := eq_true (of_decide_eq_true (by with_reducible assumption))
                replace q37 := eq_true q37
                go_wp2_with (first | ((with_reducible refine gate_callee (f := 28) rfl ?_); refine goesL_ (some 52) rfl rfl Tryz.func28 (by kernel_rfl) rfl #[.int .u8 (bt a0 0)] rfl (by (try simp only [List.map_toArray, List.map_cons, List.map_nil]); rfl) ?_; (with_reducible refine (orielref04_Small.calls (bt a0 0) true _ A38.out).mono ?_); rintro e w' ⟨rfl, ⟨nd, rfl⟩⟩; refine ⟨_, rfl, ?_⟩) | ((with_reducible refine gate_callee (f := 29) rfl ?_); refine goesL_ (some 54) rfl rfl Tryz.func29 (by kernel_rfl) rfl #[] rfl (by (try simp only [List.map_toArray, List.map_cons, List.map_nil]); done) ?_; (with_reducible refine (orielref04_Keywords.calls  t209 _ A40.out).mono ?_); rintro e w43 ⟨v210, rfl, ho0, hb⟩; refine ⟨_, rfl, ?_⟩; have n0_ := Aside0.mk (Kd.R_lower ho0 (below_size (by repeat ((with_reducible first | exact HB.out | apply pw_below_drewN ))))); have n1_ := Aside0.mk (below_step (by repeat ((with_reducible first | exact HB.out | apply pw_below_drewN ))) hb); clear HB; have HO211 := n0_; have HB := n1_; clear n0_ n1_; (try clear hb); (try clear hb2); (try clear hk); (try clear hi); (try clear ho0); obtain ⟨Ao44, co44, eo44⟩ := Kd.R_slice HO211.out; subst eo44) | ((with_reducible refine gate_callee (f := 22) rfl ?_); refine goesL_ (some 56) rfl rfl Tryz.func22 (by kernel_rfl) rfl #[.slice Ao44 t209.length co44, .string a0] rfl (by (try simp only [List.map_toArray, List.map_cons, List.map_nil]); rfl) ?_; (with_reducible refine (orielref04_In.calls kj27 _ _ t209 a0 true _ ?side1 ?side2 A41.out).mono ?_); (case side1 => repeat (exact (Kd.R_reads' HO211.out).2.2)); (case side2 => exact (Kd.R_reads' HO211.out).2.1); rintro e w' ⟨rfl, ⟨nd, rfl⟩⟩; refine ⟨_, rfl, ?_⟩))
                go_ret
                exact ⟨by rfl, by repeat ((with_reducible first | exact HB.out | apply pw_below_drewN ))⟩
               ·replace c42 := Bool.eq_false_iff.mpr c42
                subst c42
                have H1 : (some 6) = some r := by rw [if_neg (show ¬ (false = true) by decide)] at H; exact H
                clear H
                have H := H1
                clear H1
                obtain rfl := Option.some.inj H
                have p37 : 0 ≤ (0 : Int) := (by omega)
                have q37 : 0 < a0.size := (by have : (0 : Int) < (a0.size : Int) := of_decide_eq_true (by with_reducible assumption); omega)
                have hx37 : ∀ h : 0 < a0.size, ((a0[0]'h).toNat : Int) = bt a0 0 := bt_at a0 0
                clear p37
                have qi37 : (0 < (a0.size : Int)) = True := eq_true (of_decide_eq_true (by with_reducible assumption))
                replace q37 := eq_true q37
                go_wp2_with (first | ((with_reducible refine gate_callee (f := 28) rfl ?_); refine goesL_ (some 52) rfl rfl Tryz.func28 (by kernel_rfl) rfl #[.int .u8 (bt a0 0)] rfl (by (try simp only [List.map_toArray, List.map_cons, List.map_nil]); rfl) ?_; (with_reducible refine (orielref04_Small.calls (bt a0 0) true _ A38.out).mono ?_); rintro e w' ⟨rfl, ⟨nd, rfl⟩⟩; refine ⟨_, rfl, ?_⟩) | ((with_reducible refine gate_callee (f := 29) rfl ?_); refine goesL_ (some 54) rfl rfl Tryz.func29 (by kernel_rfl) rfl #[] rfl (by (try simp only [List.map_toArray, List.map_cons, List.map_nil]); done) ?_; (with_reducible refine (orielref04_Keywords.calls  t209 _ A40.out).mono ?_); rintro e w45 ⟨v210, rfl, ho0, hb⟩; refine ⟨_, rfl, ?_⟩; have n0_ := Aside0.mk (Kd.R_lower ho0 (below_size (by repeat ((with_reducible first | exact HB.out | apply pw_below_drewN ))))); have n1_ := Aside0.mk (below_step (by repeat ((with_reducible first | exact HB.out | apply pw_below_drewN ))) hb); clear HB; have HO211 := n0_; have HB := n1_; clear n0_ n1_; (try clear hb); (try clear hb2); (try clear hk); (try clear hi); (try clear ho0); obtain ⟨Ao46, co46, eo46⟩ := Kd.R_slice HO211.out; subst eo46) | ((with_reducible refine gate_callee (f := 22) rfl ?_); refine goesL_ (some 56) rfl rfl Tryz.func22 (by kernel_rfl) rfl #[.slice Ao46 t209.length co46, .string a0] rfl (by (try simp only [List.map_toArray, List.map_cons, List.map_nil]); rfl) ?_; (with_reducible refine (orielref04_In.calls kj27 _ _ t209 a0 false _ ?side1 ?side2 A41.out).mono ?_); (case side1 => repeat (exact (Kd.R_reads' HO211.out).2.2)); (case side2 => exact (Kd.R_reads' HO211.out).2.1); rintro e w' ⟨rfl, ⟨nd, rfl⟩⟩; refine ⟨_, rfl, ?_⟩))
                go_ret
                exact ⟨by rfl, by repeat ((with_reducible first | exact HB.out | apply pw_below_drewN ))⟩
              ·replace c39 := Bool.eq_false_iff.mpr c39
               subst c39
               have H1 : (some 0) = some r := by rw [if_neg (show ¬ (false = true) by decide)] at H; exact H
               clear H
               have H := H1
               clear H1
               obtain rfl := Option.some.inj H
               have p37 : 0 ≤ (0 : Int) := (by omega)
               have q37 : 0 < a0.size := (by have : (0 : Int) < (a0.size : Int) := of_decide_eq_true (by with_reducible assumption); omega)
               have hx37 : ∀ h : 0 < a0.size, ((a0[0]'h).toNat : Int) = bt a0 0 := bt_at a0 0
               clear p37
               have qi37 : (0 < (a0.size : Int)) = True := eq_true (of_decide_eq_true (by with_reducible assumption))
               replace q37 := eq_true q37
               go_wp2_with (((with_reducible refine gate_callee (f := 28) rfl ?_); refine goesL_ (some 52) rfl rfl Tryz.func28 (by kernel_rfl) rfl #[.int .u8 (bt a0 0)] rfl (by (try simp only [List.map_toArray, List.map_cons, List.map_nil]); rfl) ?_; (with_reducible refine (orielref04_Small.calls (bt a0 0) false _ A38.out).mono ?_); rintro e w' ⟨rfl, ⟨nd, rfl⟩⟩; refine ⟨_, rfl, ?_⟩))
               go_ret
               exact ⟨by rfl, by repeat ((with_reducible first | exact HB.out | apply pw_below_drewN ))⟩
             ·rw [if_neg c36] at H
              exact absurd H (by simp)
        ·rw [if_neg c24] at H
         exact absurd H (by simp)
       ·replace c23 := Bool.eq_false_iff.mpr c23
        subst c23
        have H1 : (some 0) = some r := by rw [if_neg (show ¬ (false = true) by decide)] at H; exact H
        clear H
        have H := H1
        clear H1
        obtain rfl := Option.some.inj H
        go_wp2
        go_ret
        exact ⟨by rfl, by repeat (with_reducible exact HB.out)⟩

/-! ### orielref05_blank: function 71 -/
def orielref05_blank.f (a0 : Int) : Option (Bool) := if a0 = 32 then (some true) else (if a0 = 9 then (some true) else (if a0 = 10 then (some true) else (some (a0 == 13))))
set_option maxHeartbeats 8000000 in
set_option maxRecDepth 100000 in
theorem orielref05_blank.calls (a0 : Int) (r : Bool) (w : World) (h : orielref05_blank.f a0 = some r) :
  Calls Tryz.prog 71 #[.int .u8 a0] w fun e w' => e = .returned (.bool r) ∧ Drawn0 w w' := by
 have H : (if a0 = 32 then (some true) else (if a0 = 9 then (some true) else (if a0 = 10 then (some true) else (some (a0 == 13))))) = some r := h
 clear h
 by_cases c2 : a0 = 32
 ·rw [if_pos c2] at H
  have c2b0 : (a0 == 32) = true := beq_iff_eq.mpr c2
  have c2b1 : (a0 != 32) = false := bne_eq_false_iff_eq.mpr c2
  clear c2
  obtain rfl := Option.some.inj H
  go_enter Tryz.func71, Tryz.ntmps71
  go_wp2
  go_ret
  exact ⟨by rfl, by repeat (exact Drawn0.refl _)⟩
 ·rw [if_neg c2] at H
  have c2b0 : (a0 == 32) = false := beq_eq_false_iff_ne.mpr c2
  have c2b1 : (a0 != 32) = true := bne_iff_ne.mpr c2
  by_cases c3 : a0 = 9
  ·rw [if_pos c3] at H
   have c3b0 : (a0 == 9) = true := beq_iff_eq.mpr c3
   have c3b1 : (a0 != 9) = false := bne_eq_false_iff_eq.mpr c3
   clear c3
   obtain rfl := Option.some.inj H
   go_enter Tryz.func71, Tryz.ntmps71
   go_wp2
   go_ret
   exact ⟨by rfl, by repeat (exact Drawn0.refl _)⟩
  ·rw [if_neg c3] at H
   have c3b0 : (a0 == 9) = false := beq_eq_false_iff_ne.mpr c3
   have c3b1 : (a0 != 9) = true := bne_iff_ne.mpr c3
   by_cases c4 : a0 = 10
   ·rw [if_pos c4] at H
    have c4b0 : (a0 == 10) = true := beq_iff_eq.mpr c4
    have c4b1 : (a0 != 10) = false := bne_eq_false_iff_eq.mpr c4
    clear c4
    obtain rfl := Option.some.inj H
    go_enter Tryz.func71, Tryz.ntmps71
    go_wp2
    go_ret
    exact ⟨by rfl, by repeat (exact Drawn0.refl _)⟩
   ·rw [if_neg c4] at H
    have c4b0 : (a0 == 10) = false := beq_eq_false_iff_ne.mpr c4
    have c4b1 : (a0 != 10) = true := bne_iff_ne.mpr c4
    obtain rfl := Option.some.inj H
    go_enter Tryz.func71, Tryz.ntmps71
    go_wp2
    go_ret
    exact ⟨by rfl, by repeat (exact Drawn0.refl _)⟩

end Go.Proofs.YtfccifekaokibaaGreatDoor.QT

