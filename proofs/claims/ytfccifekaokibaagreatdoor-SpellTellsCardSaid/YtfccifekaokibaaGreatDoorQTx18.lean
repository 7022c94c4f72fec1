-- Laid by this claim's own program (mprint.py in the repo).
import Derived.Test.YtfccifekaokibaaGreatDoorQTx0
import Derived.Test.YtfccifekaokibaaGreatDoorQTx9
import Derived.Test.YtfccifekaokibaaGreatDoorQTx11
import Derived.Test.YtfccifekaokibaaGreatDoorQTx12
import Derived.Test.YtfccifekaokibaaGreatDoorQTx13
import Derived.Test.YtfccifekaokibaaGreatDoorQTx16
import Derived.Test.YtfccifekaokibaaGreatDoorQTx17
namespace Go.Proofs.YtfccifekaokibaaGreatDoor.QT
open Go.RowKit Go.Proofs.YtfccifekaokibaaGreatDoorW.PrintWords Go.Proofs.YtfccifekaokibaaGreatDoorW.PrintLast Go.Proofs.YtfccifekaokibaaGreatDoorW.PrintMore
attribute [local go_sem] max2_int min2_int max_two min_two max_three min_three max_four min_four   -- for this text's walks alone
set_option linter.unusedVariables false
set_option linter.unusedSimpArgs false

/-! ### orielref16_Fresh: function 7 -/
def orielref16_Fresh.l0 : Nat → ByteArray → List ByteArray → ByteArray → Int → Option (ByteArray × Bool)
 | 0, _, _, _, _ => none
 | k + 1, x0, x7, x8, x9 => if x9 ≤ (wrap64 ((x7.length : Int) + 2)) then (if 0 ≤ 1 then (if 1 ≤ (x0.size : Int) then (if x8.size + (x0.extract 0 1).size ≤ 9223372036854775807 then ((orielref04_Alike.f k (x8 ++ (x0.extract 0 1)) x0).bind fun t354 => (if t354 = true then ((orielref04_In.f k x7 (x8 ++ (x0.extract 0 1))).bind fun t355 => (if t355 = true then (orielref16_Fresh.l0 k x0 x7 (x8 ++ (x0.extract 0 1)) (wrap64 (x9 + 1))) else (some (x8 ++ (x0.extract 0 1), true)))) else (orielref16_Fresh.l0 k x0 x7 (x8 ++ (x0.extract 0 1)) (wrap64 (x9 + 1))))) else (none)) else (none)) else (none)) else (some ((⟨#[]⟩ : ByteArray), false))
def orielref16_Fresh.f (k : Nat) (a0 : ByteArray) (l1 : List (S41)) : Option (ByteArray × Bool) := (orielref04_Kind.f k a0).bind fun t340 => (if t340 = 6 then ((orielref16_Taken.f k l1).bind fun t341 => ((orielref04_Fresh.f k 1 t341).bind fun bt344 => (some (bt344.1, bt344.2)))) else (if t340 = 7 then ((orielref16_Taken.f k l1).bind fun t346 => ((orielref04_Fresh.f k 4 t346).bind fun bt349 => (some (bt349.1, bt349.2)))) else (if t340 = 9 then ((orielref16_Taken.f k l1).bind fun t351 => (if 0 ≤ 1 then (if 1 ≤ (a0.size : Int) then (orielref16_Fresh.l0 k a0 t351 (a0.extract 0 1) 0) else (none)) else (none))) else (some ((⟨#[]⟩ : ByteArray), false)))))
theorem orielref16_Fresh.mono_l : ∀ k, (∀ y0 y1 y2 y3, LeO (orielref16_Fresh.l0 k y0 y1 y2 y3) (orielref16_Fresh.l0 (k + 1) y0 y1 y2 y3))
 | 0 => fun _ _ _ _ r h => by simp [orielref16_Fresh.l0] at h
 | k + 1 => by
  have ih0 := orielref16_Fresh.mono_l k
  ·intro y0 y1 y2 y3
   unfold orielref16_Fresh.l0
   repeat' first
   | (with_reducible exact ih0 _ _ _ _)
   | (with_reducible exact orielref04_Alike.mono _ _ _)
   | (with_reducible exact orielref04_In.mono _ _ _)
   | (with_reducible exact LeO.refl _)
   | (with_reducible refine LeO.ite ?_ ?_)
   | (with_reducible refine LeO.bind ?_ (fun _ => ?_))
theorem orielref16_Fresh.mono : ∀ a0 a1 k, LeO (orielref16_Fresh.f k a0 a1) (orielref16_Fresh.f (k + 1) a0 a1) := by
 intro a0 a1 k
 have ih0 := orielref16_Fresh.mono_l k
 unfold orielref16_Fresh.f
 repeat' first
   | (with_reducible exact ih0 _ _ _ _)
   | (with_reducible exact orielref04_Fresh.mono _ _ _)
   | (with_reducible exact orielref04_Kind.mono _ _)
   | (with_reducible exact orielref16_Taken.mono _ _)
   | (with_reducible exact LeO.refl _)
   | (with_reducible refine LeO.ite ?_ ?_)
   | (with_reducible refine LeO.bind ?_ (fun _ => ?_))
set_option maxHeartbeats 8000000 in
set_option maxRecDepth 100000 in
theorem orielref16_Fresh.calls (k : Nat) (a0 : ByteArray) (A1 : Option Addr) (c1 : Nat) (l1 : List (S41)) (r1 : ByteArray) (r2 : Bool) (w : World) (hr1 : Kd.C k41 w A1 l1.length l1) (hc1 : l1.length ≤ c1) (h : orielref16_Fresh.f k a0 l1 = some (r1, r2)) :
  Calls Tryz.prog 7 #[.string a0, .slice A1 l1.length c1] w fun e w' => e = .returned (.tuple #[.string r1, .bool r2]) ∧ Below w.heap.size w w' := by
 have HR1 := Aside0.mk hr1
 have HC1 := Aside0.mk hc1
 clear hr1 hc1
 have HB := Aside0.mk (Below.refl w.heap.size w)
 have H : ((orielref04_Kind.f k a0).bind fun t340 => (if t340 = 6 then ((orielref16_Taken.f k l1).bind fun t341 => ((orielref04_Fresh.f k 1 t341).bind fun bt344 => (some (bt344.1, bt344.2)))) else (if t340 = 7 then ((orielref16_Taken.f k l1).bind fun t346 => ((orielref04_Fresh.f k 4 t346).bind fun bt349 => (some (bt349.1, bt349.2)))) else (if t340 = 9 then ((orielref16_Taken.f k l1).bind fun t351 => (if 0 ≤ 1 then (if 1 ≤ (a0.size : Int) then (orielref16_Fresh.l0 k a0 t351 (a0.extract 0 1) 0) else (none)) else (none))) else (some ((⟨#[]⟩ : ByteArray), false)))))) = some (r1, r2) := h
 clear h
 replace H := Option.bind_eq_some_iff.mp H
 obtain ⟨t340, A30, H⟩ := H
 replace H : (if t340 = 6 then ((orielref16_Taken.f k l1).bind fun t341 => ((orielref04_Fresh.f k 1 t341).bind fun bt344 => (some (bt344.1, bt344.2)))) else (if t340 = 7 then ((orielref16_Taken.f k l1).bind fun t346 => ((orielref04_Fresh.f k 4 t346).bind fun bt349 => (some (bt349.1, bt349.2)))) else (if t340 = 9 then ((orielref16_Taken.f k l1).bind fun t351 => (if 0 ≤ 1 then (if 1 ≤ (a0.size : Int) then (orielref16_Fresh.l0 k a0 t351 (a0.extract 0 1) 0) else (none)) else (none))) else (some ((⟨#[]⟩ : ByteArray), false))))) = some (r1, r2) := H
 have A3 := Aside0.mk A30
 clear A30
 by_cases c4 : t340 = 6
 ·rw [if_pos c4] at H
  have c4b0 : (t340 == 6) = true := beq_iff_eq.mpr c4
  have c4b1 : (t340 != 6) = false := bne_eq_false_iff_eq.mpr c4
  clear c4
  replace H := Option.bind_eq_some_iff.mp H
  obtain ⟨t341, A50, H⟩ := H
  replace H : ((orielref04_Fresh.f k 1 t341).bind fun bt344 => (some (bt344.1, bt344.2))) = some (r1, r2) := H
  have A5 := Aside0.mk A50
  clear A50
  replace H := Option.bind_eq_some_iff.mp H
  obtain ⟨⟨t344, t345⟩, A60, H⟩ := H
  replace H : (some (t344, t345)) = some (r1, r2) := H
  have A6 := Aside0.mk A60
  clear A60
  simp only [Option.some.injEq, Prod.mk.injEq] at H
  obtain ⟨rfl, rfl⟩ := H
  go_enter Tryz.func7, Tryz.ntmps7
  go_wp2_with (first | ((with_reducible refine gate_callee (f := 10) rfl ?_); refine goesL_ (some 11) rfl rfl Tryz.func10 (by kernel_rfl) rfl #[.string a0] rfl (by (try simp only [List.map_toArray, List.map_cons, List.map_nil]); rfl) ?_; (with_reducible refine (orielref04_Kind.calls k a0 t340 _ A3.out).mono ?_); rintro e w7 ⟨rfl, hb⟩; refine ⟨_, rfl, ?_⟩; have n0_ := Aside0.mk (below_step (by repeat (with_reducible exact HB.out)) hb); clear HB; have HB := n0_; clear n0_; (try clear hb); (try clear hb2); (try clear hk); (try clear hi)) | ((with_reducible refine gate_callee (f := 13) rfl ?_); refine goesL_ (some 15) rfl rfl Tryz.func13 (by kernel_rfl) rfl #[.slice A1 l1.length c1] rfl (by (try simp only [List.map_toArray, List.map_cons, List.map_nil]); rfl) ?_; (with_reducible refine (orielref16_Taken.calls k _ _ l1 t341 _ ?side1 ?side2 A5.out).mono ?_); (case side1 => repeat (exact (Kd.C_below HR1.out HB.out))); (case side2 => exact HC1.out); rintro e w8 ⟨v342, rfl, ho0, hb⟩; refine ⟨_, rfl, ?_⟩; have n0_ := Aside0.mk (Kd.R_lower ho0 (below_size (by repeat (with_reducible exact HB.out)))); have n1_ := Aside0.mk (below_step (by repeat (with_reducible exact HB.out)) hb); clear HB; have HO343 := n0_; have HB := n1_; clear n0_ n1_; (try clear hb); (try clear hb2); (try clear hk); (try clear hi); (try clear ho0); obtain ⟨Ao9, co9, eo9⟩ := Kd.R_slice HO343.out; subst eo9) | ((with_reducible refine gate_callee (f := 20) rfl ?_); refine goesL_ (some 16) rfl rfl Tryz.func20 (by kernel_rfl) rfl #[.int .i64 1, .slice Ao9 t341.length co9] rfl (by (try simp only [List.map_toArray, List.map_cons, List.map_nil]); rfl) ?_; (with_reducible refine (orielref04_Fresh.calls k 1 _ _ t341 t344 t345 _ ?side1 ?side2 A6.out).mono ?_); (case side1 => repeat (exact (Kd.R_reads' HO343.out).2.2)); (case side2 => exact (Kd.R_reads' HO343.out).2.1); rintro e w10 ⟨rfl, hb⟩; refine ⟨_, rfl, ?_⟩; have n0_ := Aside0.mk (Kd.R_below (by (with_reducible repeat (fail)); exact HO343.out) hb); have n1_ := Aside0.mk (below_step (by repeat (with_reducible exact HB.out)) hb); clear HO343; clear HB; have HO343 := n0_; have HB := n1_; clear n0_ n1_; (try clear hb); (try clear hb2); (try clear hk); (try clear hi)))
  go_ret2
  exact ⟨by rfl, by repeat (with_reducible exact HB.out)⟩
 ·rw [if_neg c4] at H
  have c4b0 : (t340 == 6) = false := beq_eq_false_iff_ne.mpr c4
  have c4b1 : (t340 != 6) = true := bne_iff_ne.mpr c4
  by_cases c11 : t340 = 7
  ·rw [if_pos c11] at H
   have c11b0 : (t340 == 7) = true := beq_iff_eq.mpr c11
   have c11b1 : (t340 != 7) = false := bne_eq_false_iff_eq.mpr c11
   clear c11
   replace H := Option.bind_eq_some_iff.mp H
   obtain ⟨t346, A120, H⟩ := H
   replace H : ((orielref04_Fresh.f k 4 t346).bind fun bt349 => (some (bt349.1, bt349.2))) = some (r1, r2) := H
   have A12 := Aside0.mk A120
   clear A120
   replace H := Option.bind_eq_some_iff.mp H
   obtain ⟨⟨t349, t350⟩, A130, H⟩ := H
   replace H : (some (t349, t350)) = some (r1, r2) := H
   have A13 := Aside0.mk A130
   clear A130
   simp only [Option.some.injEq, Prod.mk.injEq] at H
   obtain ⟨rfl, rfl⟩ := H
   go_enter Tryz.func7, Tryz.ntmps7
   go_wp2_with (first | ((with_reducible refine gate_callee (f := 10) rfl ?_); refine goesL_ (some 11) rfl rfl Tryz.func10 (by kernel_rfl) rfl #[.string a0] rfl (by (try simp only [List.map_toArray, List.map_cons, List.map_nil]); rfl) ?_; (with_reducible refine (orielref04_Kind.calls k a0 t340 _ A3.out).mono ?_); rintro e w14 ⟨rfl, hb⟩; refine ⟨_, rfl, ?_⟩; have n0_ := Aside0.mk (below_step (by repeat (with_reducible exact HB.out)) hb); clear HB; have HB := n0_; clear n0_; (try clear hb); (try clear hb2); (try clear hk); (try clear hi)) | ((with_reducible refine gate_callee (f := 13) rfl ?_); refine goesL_ (some 22) rfl rfl Tryz.func13 (by kernel_rfl) rfl #[.slice A1 l1.length c1] rfl (by (try simp only [List.map_toArray, List.map_cons, List.map_nil]); rfl) ?_; (with_reducible refine (orielref16_Taken.calls k _ _ l1 t346 _ ?side1 ?side2 A12.out).mono ?_); (case side1 => repeat (exact (Kd.C_below HR1.out HB.out))); (case side2 => exact HC1.out); rintro e w15 ⟨v347, rfl, ho0, hb⟩; refine ⟨_, rfl, ?_⟩; have n0_ := Aside0.mk (Kd.R_lower ho0 (below_size (by repeat (with_reducible exact HB.out)))); have n1_ := Aside0.mk (below_step (by repeat (with_reducible exact HB.out)) hb); clear HB; have HO348 := n0_; have HB := n1_; clear n0_ n1_; (try clear hb); (try clear hb2); (try clear hk); (try clear hi); (try clear ho0); obtain ⟨Ao16, co16, eo16⟩ := Kd.R_slice HO348.out; subst eo16) | ((with_reducible refine gate_callee (f := 20) rfl ?_); refine goesL_ (some 23) rfl rfl Tryz.func20 (by kernel_rfl) rfl #[.int .i64 4, .slice Ao16 t346.length co16] rfl (by (try simp only [List.map_toArray, List.map_cons, List.map_nil]); rfl) ?_; (with_reducible refine (orielref04_Fresh.calls k 4 _ _ t346 t349 t350 _ ?side1 ?side2 A13.out).mono ?_); (case side1 => repeat (exact (Kd.R_reads' HO348.out).2.2)); (case side2 => exact (Kd.R_reads' HO348.out).2.1); rintro e w17 ⟨rfl, hb⟩; refine ⟨_, rfl, ?_⟩; have n0_ := Aside0.mk (Kd.R_below (by (with_reducible repeat (fail)); exact HO348.out) hb); have n1_ := Aside0.mk (below_step (by repeat (with_reducible exact HB.out)) hb); clear HO348; clear HB; have HO348 := n0_; have HB := n1_; clear n0_ n1_; (try clear hb); (try clear hb2); (try clear hk); (try clear hi)))
   go_ret2
   exact ⟨by rfl, by repeat (with_reducible exact HB.out)⟩
  ·rw [if_neg c11] at H
   have c11b0 : (t340 == 7) = false := beq_eq_false_iff_ne.mpr c11
   have c11b1 : (t340 != 7) = true := bne_iff_ne.mpr c11
   by_cases c18 : t340 = 9
   ·rw [if_pos c18] at H
    have c18b0 : (t340 == 9) = true := beq_iff_eq.mpr c18
    have c18b1 : (t340 != 9) = false := bne_eq_false_iff_eq.mpr c18
    clear c18
    replace H := Option.bind_eq_some_iff.mp H
    obtain ⟨t351, A190, H⟩ := H
    replace H : (if 0 ≤ 1 then (if 1 ≤ (a0.size : Int) then (orielref16_Fresh.l0 k a0 t351 (a0.extract 0 1) 0) else (none)) else (none)) = some (r1, r2) := H
    have A19 := Aside0.mk A190
    clear A190
    by_cases c20 : 0 ≤ 1
    ·rw [if_pos c20] at H
     have c20b0 := eq_true c20
     have c20b1 : decide (0 ≤ 1) = true := decide_eq_true c20
     clear c20
     by_cases c21 : 1 ≤ (a0.size : Int)
     ·rw [if_pos c21] at H
      have c21b0 := eq_true c21
      have c21b1 : decide (1 ≤ (a0.size : Int)) = true := decide_eq_true c21
      clear c21
      have H' := Aside0.mk H
      clear H
      go_enter Tryz.func7, Tryz.ntmps7
      go_wp2_with (first | ((with_reducible refine gate_callee (f := 10) rfl ?_); refine goesL_ (some 11) rfl rfl Tryz.func10 (by kernel_rfl) rfl #[.string a0] rfl (by (try simp only [List.map_toArray, List.map_cons, List.map_nil]); rfl) ?_; (with_reducible refine (orielref04_Kind.calls k a0 t340 _ A3.out).mono ?_); rintro e w22 ⟨rfl, hb⟩; refine ⟨_, rfl, ?_⟩; have n0_ := Aside0.mk (below_step (by repeat (with_reducible exact HB.out)) hb); clear HB; have HB := n0_; clear n0_; (try clear hb); (try clear hb2); (try clear hk); (try clear hi)) | ((with_reducible refine gate_callee (f := 13) rfl ?_); refine goesL_ (some 29) rfl rfl Tryz.func13 (by kernel_rfl) rfl #[.slice A1 l1.length c1] rfl (by (try simp only [List.map_toArray, List.map_cons, List.map_nil]); rfl) ?_; (with_reducible refine (orielref16_Taken.calls k _ _ l1 t351 _ ?side1 ?side2 A19.out).mono ?_); (case side1 => repeat (exact (Kd.C_below HR1.out HB.out))); (case side2 => exact HC1.out); rintro e w23 ⟨v352, rfl, ho0, hb⟩; refine ⟨_, rfl, ?_⟩; have n0_ := Aside0.mk (Kd.R_lower ho0 (below_size (by repeat (with_reducible exact HB.out)))); have n1_ := Aside0.mk (below_step (by repeat (with_reducible exact HB.out)) hb); clear HB; have HO353 := n0_; have HB := n1_; clear n0_ n1_; (try clear hb); (try clear hb2); (try clear hk); (try clear hi); (try clear ho0)))
      go_loopg [8, 9] k (fun kq v8 v9 w' => ∃ (x8_1 : ByteArray) (x9_1 : Int), v8 = .string x8_1 ∧ v9 = .int .i64 x9_1 ∧ Aside0 (orielref16_Fresh.l0 kq a0 t351 x8_1 x9_1 = some (r1, r2)) ∧ Aside0 (kq ≤ k) ∧ Aside0 (Kd.R Kd.string 9 w' w.heap.size (fun _ => True) v352 t351) ∧ Aside0 (Below w.heap.size w w'))
      case atStart => exact ⟨(a0.extract 0 1), (0), (by rfl), (by rfl), H', ⟨Nat.le_refl _⟩, ⟨by (with_reducible repeat (fail)); exact HO353.out⟩, ⟨by repeat (with_reducible exact HB.out)⟩⟩
      case round =>
       clear H'
       clear c4 c4b0 c4b1 c11 c11b0 c11b1 c18b0 c18b1 c20b0 c20b1 c21b0 c21b1
       obtain ⟨x8_1, x9_1, rfl, rfl, HA, HK1, HO_7, HB⟩ := hrel
       cases gk with
       | zero => exact absurd HA.out (by simp [orielref16_Fresh.l0])
       | succ k1 =>
        have H := HA.out
        clear HA
        simp only [orielref16_Fresh.l0] at H
        by_cases c24 : x9_1 ≤ (wrap64 ((t351.length : Int) + 2))
        ·rw [if_pos c24] at H
         have c24b0 : decide (x9_1 ≤ (wrap64 ((t351.length : Int) + 2))) = true := decide_eq_true c24
         clear c24
         by_cases c25 : 0 ≤ 1
         ·rw [if_pos c25] at H
          have c25b0 := eq_true c25
          have c25b1 : decide (0 ≤ 1) = true := decide_eq_true c25
          clear c25
          by_cases c26 : 1 ≤ (a0.size : Int)
          ·rw [if_pos c26] at H
           have c26b0 := eq_true c26
           have c26b1 : decide (1 ≤ (a0.size : Int)) = true := decide_eq_true c26
           clear c26
           by_cases c27 : x8_1.size + (a0.extract 0 1).size ≤ 9223372036854775807
           ·rw [if_pos c27] at H
            have c27b0 := eq_true c27
            have c27b1 : decide (x8_1.size + (a0.extract 0 1).size ≤ 9223372036854775807) = true := decide_eq_true c27
            try have c27b2 : (9223372036854775807 < x8_1.size + (a0.extract 0 1).size) = False := eq_false (Nat.not_lt.2 c27)
            replace H := Option.bind_eq_some_iff.mp H
            obtain ⟨t354, A280, H⟩ := H
            replace H : (if t354 = true then ((orielref04_In.f k1 t351 (x8_1 ++ (a0.extract 0 1))).bind fun t355 => (if t355 = true then (orielref16_Fresh.l0 k1 a0 t351 (x8_1 ++ (a0.extract 0 1)) (wrap64 (x9_1 + 1))) else (some (x8_1 ++ (a0.extract 0 1), true)))) else (orielref16_Fresh.l0 k1 a0 t351 (x8_1 ++ (a0.extract 0 1)) (wrap64 (x9_1 + 1)))) = some (r1, r2) := H
            have A28 := Aside0.mk A280
            clear A280
            by_cases c29 : t354 = true
            ·subst c29
             have H1 : ((orielref04_In.f k1 t351 (x8_1 ++ (a0.extract 0 1))).bind fun t355 => (if t355 = true then (orielref16_Fresh.l0 k1 a0 t351 (x8_1 ++ (a0.extract 0 1)) (wrap64 (x9_1 + 1))) else (some (x8_1 ++ (a0.extract 0 1), true)))) = some (r1, r2) := by rw [if_pos rfl] at H; exact H
             clear H
             have H := H1
             clear H1
             replace H := Option.bind_eq_some_iff.mp H
             obtain ⟨t355, A300, H⟩ := H
             replace H : (if t355 = true then (orielref16_Fresh.l0 k1 a0 t351 (x8_1 ++ (a0.extract 0 1)) (wrap64 (x9_1 + 1))) else (some (x8_1 ++ (a0.extract 0 1), true))) = some (r1, r2) := H
             have A30 := Aside0.mk A300
             clear A300
             by_cases c31 : t355 = true
             ·subst c31
              have H1 : (orielref16_Fresh.l0 k1 a0 t351 (x8_1 ++ (a0.extract 0 1)) (wrap64 (x9_1 + 1))) = some (r1, r2) := by rw [if_pos rfl] at H; exact H
              clear H
              have H := H1
              clear H1
              have H' := Aside0.mk H
              clear H
              obtain ⟨Ao32, co32, eo32⟩ := Kd.R_slice HO_7.out
              subst eo32
              go_wp2_with (first | ((with_reducible refine gate_callee (f := 21) rfl ?_); refine goesL_ (some 45) rfl rfl Tryz.func21 (by kernel_rfl) rfl #[.string (x8_1 ++ (a0.extract 0 1)), .string a0] rfl (by (try simp only [List.map_toArray, List.map_cons, List.map_nil]); rfl) ?_; (with_reducible refine (orielref04_Alike.calls k1 (x8_1 ++ (a0.extract 0 1)) a0 true _ A28.out).mono ?_); rintro e w33 ⟨rfl, hb⟩; refine ⟨_, rfl, ?_⟩; have n0_ := Aside0.mk (Kd.R_below (by (with_reducible repeat (fail)); exact HO_7.out) hb); have n1_ := Aside0.mk (below_step (by repeat (with_reducible exact HB.out)) hb); clear HO_7; clear HB; have HO_7 := n0_; have HB := n1_; clear n0_ n1_; (try clear hb); (try clear hb2); (try clear hk); (try clear hi)) | (go_at_call 22; (with_reducible refine (orielref04_In.calls k1 _ _ t351 (x8_1 ++ (a0.extract 0 1)) true _ ?side1 ?side2 A30.out).mono ?_); (case side1 => repeat (exact (Kd.R_reads' HO_7.out).2.2)); (case side2 => exact (Kd.R_reads' HO_7.out).2.1); rintro e w' ⟨rfl, ⟨nd, rfl⟩⟩))
              go_roundg k1
              case measure => have := HK1.out; omega
              case rel => exact ⟨(x8_1 ++ (a0.extract 0 1)), (wrap64 (x9_1 + 1)), (by rfl), (by rfl), H', ⟨by have := HK1.out; omega⟩, ⟨by (with_reducible repeat (apply Kd.R_drewN)); exact HO_7.out⟩, ⟨by repeat ((with_reducible first | exact HB.out | apply pw_below_drewN ))⟩⟩
             ·replace c31 := Bool.eq_false_iff.mpr c31
              subst c31
              have H1 : (some (x8_1 ++ (a0.extract 0 1), true)) = some (r1, r2) := by rw [if_neg (show ¬ (false = true) by decide)] at H; exact H
              clear H
              have H := H1
              clear H1
              simp only [Option.some.injEq, Prod.mk.injEq] at H
              obtain ⟨rfl, rfl⟩ := H
              obtain ⟨Ao34, co34, eo34⟩ := Kd.R_slice HO_7.out
              subst eo34
              go_wp2_with (first | ((with_reducible refine gate_callee (f := 21) rfl ?_); refine goesL_ (some 45) rfl rfl Tryz.func21 (by kernel_rfl) rfl #[.string (x8_1 ++ (a0.extract 0 1)), .string a0] rfl (by (try simp only [List.map_toArray, List.map_cons, List.map_nil]); rfl) ?_; (with_reducible refine (orielref04_Alike.calls k1 (x8_1 ++ (a0.extract 0 1)) a0 true _ A28.out).mono ?_); rintro e w35 ⟨rfl, hb⟩; refine ⟨_, rfl, ?_⟩; have n0_ := Aside0.mk (Kd.R_below (by (with_reducible repeat (fail)); exact HO_7.out) hb); have n1_ := Aside0.mk (below_step (by repeat (with_reducible exact HB.out)) hb); clear HO_7; clear HB; have HO_7 := n0_; have HB := n1_; clear n0_ n1_; (try clear hb); (try clear hb2); (try clear hk); (try clear hi)) | (go_at_call 22; (with_reducible refine (orielref04_In.calls k1 _ _ t351 (x8_1 ++ (a0.extract 0 1)) false _ ?side1 ?side2 A30.out).mono ?_); (case side1 => repeat (exact (Kd.R_reads' HO_7.out).2.2)); (case side2 => exact (Kd.R_reads' HO_7.out).2.1); rintro e w' ⟨rfl, ⟨nd, rfl⟩⟩))
              go_ret2
              exact ⟨by rfl, by repeat ((with_reducible first | exact HB.out | apply pw_below_drewN ))⟩
            ·replace c29 := Bool.eq_false_iff.mpr c29
             subst c29
             have H1 : (orielref16_Fresh.l0 k1 a0 t351 (x8_1 ++ (a0.extract 0 1)) (wrap64 (x9_1 + 1))) = some (r1, r2) := by rw [if_neg (show ¬ (false = true) by decide)] at H; exact H
             clear H
             have H := H1
             clear H1
             have H' := Aside0.mk H
             clear H
             obtain ⟨Ao36, co36, eo36⟩ := Kd.R_slice HO_7.out
             subst eo36
             go_wp2_with (((with_reducible refine gate_callee (f := 21) rfl ?_); refine goesL_ (some 45) rfl rfl Tryz.func21 (by kernel_rfl) rfl #[.string (x8_1 ++ (a0.extract 0 1)), .string a0] rfl (by (try simp only [List.map_toArray, List.map_cons, List.map_nil]); rfl) ?_; (with_reducible refine (orielref04_Alike.calls k1 (x8_1 ++ (a0.extract 0 1)) a0 false _ A28.out).mono ?_); rintro e w37 ⟨rfl, hb⟩; refine ⟨_, rfl, ?_⟩; have n0_ := Aside0.mk (Kd.R_below (by (with_reducible repeat (fail)); exact HO_7.out) hb); have n1_ := Aside0.mk (below_step (by repeat (with_reducible exact HB.out)) hb); clear HO_7; clear HB; have HO_7 := n0_; have HB := n1_; clear n0_ n1_; (try clear hb); (try clear hb2); (try clear hk); (try clear hi)))
             go_roundg k1
             case measure => have := HK1.out; omega
             case rel => exact ⟨(x8_1 ++ (a0.extract 0 1)), (wrap64 (x9_1 + 1)), (by rfl), (by rfl), H', ⟨by have := HK1.out; omega⟩, ⟨by (with_reducible repeat (fail)); exact HO_7.out⟩, ⟨by repeat (with_reducible exact HB.out)⟩⟩
           ·rw [if_neg c27] at H
            exact absurd H (by simp)
          ·rw [if_neg c26] at H
           exact absurd H (by simp)
         ·rw [if_neg c25] at H
          exact absurd H (by simp)
        ·rw [if_neg c24] at H
         have c24b0 : decide (x9_1 ≤ (wrap64 ((t351.length : Int) + 2))) = false := decide_eq_false c24
         clear c24
         simp only [Option.some.injEq, Prod.mk.injEq] at H
         obtain ⟨rfl, rfl⟩ := H
         obtain ⟨Ao38, co38, eo38⟩ := Kd.R_slice HO_7.out
         subst eo38
         go_wp2
         go_ret2
         exact ⟨by rfl, by repeat (with_reducible exact HB.out)⟩
     ·rw [if_neg c21] at H
      exact absurd H (by simp)
    ·rw [if_neg c20] at H
     exact absurd H (by simp)
   ·rw [if_neg c18] at H
    have c18b0 : (t340 == 9) = false := beq_eq_false_iff_ne.mpr c18
    have c18b1 : (t340 != 9) = true := bne_iff_ne.mpr c18
    simp only [Option.some.injEq, Prod.mk.injEq] at H
    obtain ⟨rfl, rfl⟩ := H
    go_enter Tryz.func7, Tryz.ntmps7
    go_wp2_with (((with_reducible refine gate_callee (f := 10) rfl ?_); refine goesL_ (some 11) rfl rfl Tryz.func10 (by kernel_rfl) rfl #[.string a0] rfl (by (try simp only [List.map_toArray, List.map_cons, List.map_nil]); rfl) ?_; (with_reducible refine (orielref04_Kind.calls k a0 t340 _ A3.out).mono ?_); rintro e w39 ⟨rfl, hb⟩; refine ⟨_, rfl, ?_⟩; have n0_ := Aside0.mk (below_step (by repeat (with_reducible exact HB.out)) hb); clear HB; have HB := n0_; clear n0_; (try clear hb); (try clear hb2); (try clear hk); (try clear hi)))
    go_ret2
    exact ⟨by rfl, by repeat (with_reducible exact HB.out)⟩

/-! ### spell_Places: function 8 -/
def spell_Places.f (k : Nat) (a0 : ByteArray) (l1 : List S41) : Option (List S32) := if a0.size ≤ 1000000 then (spell_spelled.f k l1).bind fun P => some (Gp P a0.data.toList) else none
theorem spell_Places.mono : ∀ a0 a1 k, LeO (spell_Places.f k a0 a1) (spell_Places.f (k + 1) a0 a1) := fun a0 a1 k => LeO.ite (LeO.bind (spell_spelled.mono a1 k) fun _ => LeO.refl _) (LeO.refl _)
set_option maxHeartbeats 2000000 in
set_option maxRecDepth 100000 in
theorem spell_Places.calls (k : Nat) (a0 : ByteArray) (A1 : Option Addr) (c1 : Nat) (l1 : List S41) (r : List S32) (w : World) (hr1 : Kd.C k41 w A1 l1.length l1) (hc1 : l1.length ≤ c1) (h : spell_Places.f k a0 l1 = some r) :
  Calls Tryz.prog 8 #[.string a0, .slice A1 l1.length c1] w fun e w' => ∃ v0_ : Value, e = .returned (v0_) ∧ Kd.R k32 32 w' w.heap.size (fun _ => True) v0_ r ∧ Below w.heap.size w w' := by
 unfold spell_Places.f at h
 by_cases hs : a0.size ≤ 1000000
 case neg => rw [if_neg hs] at h; cases h
 rw [if_pos hs] at h
 obtain ⟨P, hP, h⟩ := Option.bind_eq_some_iff.1 h
 obtain rfl := Option.some.inj h
 have HS := Aside0.mk (spell_spelled.calls k A1 c1 l1 P w hr1 hc1 hP)
 obtain ⟨m, hm⟩ : ∃ m, l1.length = m := ⟨_, rfl⟩
 rw [hm] at HS ⊢
 have hks : a0.size ≤ maxLen := by unfold maxLen; omega
 clear hr1 hc1 hP h hm hs
 go_enter Tryz.func8, Tryz.ntmps8
 go_wp2_with (go_at_call 17; with_reducible refine HS.out.mono ?_; rintro e w2 ⟨b, n, D, V, rfl, hn, hG⟩; have HG := Aside0.mk hG; have hlk := hG.look a0 hks; have hrow := hG.row a0.data.toList; obtain ⟨AV, cV, eV⟩ := Kd.R_slice hrow; obtain ⟨nV, hnV⟩ : ∃ nV, (Gp P a0.data.toList).length = nV := ⟨_, rfl⟩; rw [hnV] at eV; rw [eV] at hlk hrow; have HR := Aside0.mk hrow; clear hG hn hrow eV hnV)
 go_ret
 exact ⟨_, rfl, Kd.R_mono HR.out (fun _ _ => trivial), HG.out.below⟩

/-! ### orielref16_Places: function 9 -/
mutual
def orielref16_Places.l0 : Nat → ByteArray → List (S41) → List (S32) → Int → Option ((List (S32)))
 | 0, _, _, _, _ => none
 | k + 1, x0, x1, x5, x6 => if x6 < (x1.length : Int) then (if 0 ≤ x6 then ((orielref05_Names.f k ((rd_T41 x1 x6).f1)).bind fun t357 => (orielref16_Places.l1 k x0 x1 x5 x6 t357 0)) else (none)) else (some x5)
def orielref16_Places.l1 : Nat → ByteArray → List (S41) → List (S32) → Int → List (S51) → Int → Option ((List (S32)))
 | 0, _, _, _, _, _, _ => none
 | k + 1, x0, x1, x5, x6, x7, x8 => if x8 < (x7.length : Int) then (if 0 ≤ x6 then (if x6 < (x1.length : Int) then (if 0 ≤ x8 then (if 0 ≤ ((rd_T51 x7 x8).f1) then (if ((rd_T51 x7 x8).f1) ≤ ((rd_T51 x7 x8).f2) then (if ((rd_T51 x7 x8).f2) ≤ (((rd_T41 x1 x6).f1).size : Int) then (if (((rd_T41 x1 x6).f1).extract (((rd_T51 x7 x8).f1) : Int).toNat (((rd_T51 x7 x8).f2) : Int).toNat).toList = x0.toList then (if x5.length < 8796093022208 then (orielref16_Places.l1 k x0 x1 (x5 ++ [(⟨x6, (rd_T51 x7 x8).f1⟩ : S32)]) x6 x7 (wrap64 (x8 + 1))) else (none)) else (orielref16_Places.l1 k x0 x1 x5 x6 x7 (wrap64 (x8 + 1)))) else (none)) else (none)) else (none)) else (none)) else (none)) else (none)) else (orielref16_Places.l0 k x0 x1 x5 (wrap64 (x6 + 1)))
end
def orielref16_Places.f (k : Nat) (a0 : ByteArray) (l1 : List (S41)) : Option ((List (S32))) := orielref16_Places.l0 k a0 l1 ([] : List (S32)) 0
theorem orielref16_Places.mono_l : ∀ k, (∀ y0 y1 y2 y3, LeO (orielref16_Places.l0 k y0 y1 y2 y3) (orielref16_Places.l0 (k + 1) y0 y1 y2 y3)) ∧ (∀ y0 y1 y2 y3 y4 y5, LeO (orielref16_Places.l1 k y0 y1 y2 y3 y4 y5) (orielref16_Places.l1 (k + 1) y0 y1 y2 y3 y4 y5))
 | 0 => ⟨fun _ _ _ _ r h => by simp [orielref16_Places.l0] at h, fun _ _ _ _ _ _ r h => by simp [orielref16_Places.l1] at h⟩
 | k + 1 => by
  obtain ⟨ih0, ih1⟩ := orielref16_Places.mono_l k
  refine ⟨?_, ?_⟩
  ·intro y0 y1 y2 y3
   unfold orielref16_Places.l0
   repeat' first
   | (with_reducible exact ih1 _ _ _ _ _ _)
   | (with_reducible exact orielref05_Names.mono _ _)
   | (with_reducible exact LeO.refl _)
   | (with_reducible refine LeO.ite ?_ ?_)
   | (with_reducible refine LeO.bind ?_ (fun _ => ?_))
  ·intro y0 y1 y2 y3 y4 y5
   unfold orielref16_Places.l1
   repeat' first
   | (with_reducible exact ih0 _ _ _ _)
   | (with_reducible exact ih1 _ _ _ _ _ _)
   | (with_reducible exact LeO.refl _)
   | (with_reducible refine LeO.ite ?_ ?_)
theorem orielref16_Places.mono : ∀ a0 a1 k, LeO (orielref16_Places.f k a0 a1) (orielref16_Places.f (k + 1) a0 a1) := by
 intro a0 a1 k
 obtain ⟨ih0, ih1⟩ := orielref16_Places.mono_l k
 unfold orielref16_Places.f
 repeat' with_reducible exact ih0 _ _ _ _
set_option maxHeartbeats 8000000 in
set_option maxRecDepth 100000 in
theorem orielref16_Places.calls (k : Nat) (a0 : ByteArray) (A1 : Option Addr) (c1 : Nat) (l1 : List (S41)) (r : List (S32)) (w : World) (hr1 : Kd.C k41 w A1 l1.length l1) (hc1 : l1.length ≤ c1) (h : orielref16_Places.f k a0 l1 = some r) :
  Calls Tryz.prog 9 #[.string a0, .slice A1 l1.length c1] w fun e w' => ∃ v0_ : Value, e = .returned (v0_) ∧ Kd.R k32 32 w' w.heap.size (fun _ => True) v0_ r ∧ Below w.heap.size w w' := by
 have hu32 := Tryz.underlying32
 have HR1 := Aside0.mk hr1
 have HC1 := Aside0.mk hc1
 clear hr1 hc1
 have HB := Aside0.mk (Below.refl w.heap.size w)
 have H : (orielref16_Places.l0 k a0 l1 ([] : List (S32)) 0) = some r := h
 clear h
 have H' := Aside0.mk H
 clear H
 go_enter Tryz.func9, Tryz.ntmps9
 go_wp2
 repeat (go_quiet (fail); try go_wp2)
 go_loopg [5, 6] k (fun kq v5 v6 w' => ∃ (x5_1 : List (S32)) (x6_1 : Int), v6 = .int .i64 x6_1 ∧ Aside0 (orielref16_Places.l0 kq a0 l1 x5_1 x6_1 = some r) ∧ Aside0 (kq ≤ k) ∧ Aside0 (Kd.R k32 32 w' w.heap.size (fun _ => True) v5 x5_1) ∧ Aside0 (Below w.heap.size w w'))
 case atStart => exact ⟨(([] : List (S32))), (0), (by rfl), H', ⟨Nat.le_refl _⟩, ⟨by exact Kd.R_nil _ _ _ _ _⟩, ⟨by repeat (with_reducible exact HB.out)⟩⟩
 case round =>
  clear H'
  obtain ⟨x5_1, x6_1, rfl, HA, HK1, HO_5, HB⟩ := hrel
  cases gk with
  | zero => exact absurd HA.out (by simp [orielref16_Places.l0])
  | succ k1 =>
   have H := HA.out
   clear HA
   simp only [orielref16_Places.l0] at H
   by_cases c3 : x6_1 < (l1.length : Int)
   ·rw [if_pos c3] at H
    have c3b0 : decide (x6_1 < (l1.length : Int)) = true := decide_eq_true c3
    clear c3
    by_cases c4 : 0 ≤ x6_1
    ·rw [if_pos c4] at H
     have c4b0 : decide (0 ≤ x6_1) = true := decide_eq_true c4
     clear c4
     replace H := Option.bind_eq_some_iff.mp H
     obtain ⟨t357, A50, H⟩ := H
     replace H : (orielref16_Places.l1 k1 a0 l1 x5_1 x6_1 t357 0) = some r := H
     have A5 := Aside0.mk A50
     clear A50
     have H' := Aside0.mk H
     clear H
     have p356 : 0 ≤ (x6_1 : Int) := of_decide_eq_true (by with_reducible assumption)
     have q356 : x6_1 < (l1.length : Int) := of_decide_eq_true (by with_reducible assumption)
     obtain ⟨ad356, e356, hx356_0, hx356_1⟩ := at_T41 HR1.out x6_1 p356 q356
     cases e356
     replace hx356_0 := (HB.out.cell (World.block_lt_of_cell? w _ hx356_0)).trans hx356_0
     replace hx356_1 := (HB.out.cell (World.block_lt_of_cell? w _ hx356_1)).trans hx356_1
     replace p356 := eq_true p356
     replace q356 := eq_true q356
     go_wp2_with ((go_at_call 23; (with_reducible refine (orielref05_Names.calls k1 ((rd_T41 l1 x6_1).f1) t357 _ A5.out).mono ?_); rintro e w6 ⟨v358, rfl, ho0, hb⟩; have n0_ := Aside0.mk (Kd.R_below (by (with_reducible repeat (fail)); exact HO_5.out) hb); have n1_ := Aside0.mk (Kd.R_lower ho0 (below_size (by repeat (with_reducible exact HB.out)))); have n2_ := Aside0.mk (below_step (by repeat (with_reducible exact HB.out)) hb); clear HO_5; clear HB; have HO_5 := n0_; have HO359 := n1_; have HB := n2_; clear n0_ n1_ n2_; (try clear hb); (try clear hb2); (try clear hk); (try clear hi); (try clear ho0)))
     repeat (go_quiet (fail); try go_wp2_with (fail))
     go_loopg [5, 8] k1 (fun kq v5 v8 w' => ∃ (x5_2 : List (S32)) (x8_2 : Int), v8 = .int .i64 x8_2 ∧ Aside0 (orielref16_Places.l1 kq a0 l1 x5_2 x6_1 t357 x8_2 = some r) ∧ Aside0 (kq ≤ k1) ∧ Aside0 (Kd.R k32 32 w' w.heap.size (fun _ => True) v5 x5_2) ∧ Aside0 (Kd.R k51 51 w' w.heap.size (fun _ => True) v358 t357) ∧ Aside0 (Below w.heap.size w w'))
     case atStart => exact ⟨(x5_1), (0), (by rfl), H', ⟨Nat.le_refl _⟩, ⟨by (with_reducible repeat (fail)); exact HO_5.out⟩, ⟨by (with_reducible repeat (fail)); exact HO359.out⟩, ⟨by repeat (with_reducible exact HB.out)⟩⟩
     case round =>
      clear H'
      clear c3b0 c4b0 hx356_0 hx356_1 p356 q356
      obtain ⟨x5_2, x8_2, rfl, HA, HK2, HO_5, HO_7, HB⟩ := hrel
      cases gk with
      | zero => exact absurd HA.out (by simp [orielref16_Places.l1])
      | succ k2 =>
       have H := HA.out
       clear HA
       simp only [orielref16_Places.l1] at H
       by_cases c7 : x8_2 < (t357.length : Int)
       ·rw [if_pos c7] at H
        have c7b0 : decide (x8_2 < (t357.length : Int)) = true := decide_eq_true c7
        clear c7
        by_cases c8 : 0 ≤ x6_1
        ·rw [if_pos c8] at H
         have c8b0 : decide (0 ≤ x6_1) = true := decide_eq_true c8
         clear c8
         by_cases c9 : x6_1 < (l1.length : Int)
         ·rw [if_pos c9] at H
          have c9b0 : decide (x6_1 < (l1.length : Int)) = true := decide_eq_true c9
          clear c9
          by_cases c10 : 0 ≤ x8_2
          ·rw [if_pos c10] at H
           have c10b0 : decide (0 ≤ x8_2) = true := decide_eq_true c10
           clear c10
           by_cases c11 : 0 ≤ ((rd_T51 t357 x8_2).f1)
           ·rw [if_pos c11] at H
            have c11b0 := eq_true c11
            have c11b1 : decide (0 ≤ ((rd_T51 t357 x8_2).f1)) = true := decide_eq_true c11
            clear c11
            by_cases c12 : ((rd_T51 t357 x8_2).f1) ≤ ((rd_T51 t357 x8_2).f2)
            ·rw [if_pos c12] at H
             have c12b0 := eq_true c12
             have c12b1 : decide (((rd_T51 t357 x8_2).f1) ≤ ((rd_T51 t357 x8_2).f2)) = true := decide_eq_true c12
             clear c12
             by_cases c13 : ((rd_T51 t357 x8_2).f2) ≤ (((rd_T41 l1 x6_1).f1).size : Int)
             ·rw [if_pos c13] at H
              have c13b0 := eq_true c13
              have c13b1 : decide (((rd_T51 t357 x8_2).f2) ≤ (((rd_T41 l1 x6_1).f1).size : Int)) = true := decide_eq_true c13
              clear c13
              by_cases c14 : (((rd_T41 l1 x6_1).f1).extract (((rd_T51 t357 x8_2).f1) : Int).toNat (((rd_T51 t357 x8_2).f2) : Int).toNat).toList = a0.toList
              ·rw [if_pos c14] at H
               have c14b0 : ((((rd_T41 l1 x6_1).f1).extract (((rd_T51 t357 x8_2).f1) : Int).toNat (((rd_T51 t357 x8_2).f2) : Int).toNat).toList == a0.toList) = true := beq_iff_eq.mpr c14
               have c14b1 : ((((rd_T41 l1 x6_1).f1).extract (((rd_T51 t357 x8_2).f1) : Int).toNat (((rd_T51 t357 x8_2).f2) : Int).toNat).toList != a0.toList) = false := bne_eq_false_iff_eq.mpr c14
               clear c14
               by_cases c15 : x5_2.length < 8796093022208
               ·rw [if_pos c15] at H
                have LMc15 := Aside0.mk c15
                clear c15
                obtain ⟨y364, hy364⟩ : ∃ y_ : List (S32), y_ = (x5_2 ++ [(⟨x6_1, (rd_T51 t357 x8_2).f1⟩ : S32)]) := ⟨_, rfl⟩
                replace H : (orielref16_Places.l1 k2 a0 l1 y364 x6_1 t357 (wrap64 (x8_2 + 1))) = some r := by (rw [hy364]; with_reducible exact H)
                have Ny364 := Aside0.mk hy364
                clear hy364
                have H' := Aside0.mk H
                clear H
                obtain ⟨Ao16, co16, eo16⟩ := Kd.R_slice HO_7.out
                subst eo16
                have p360 : 0 ≤ (x6_1 : Int) := of_decide_eq_true (by with_reducible assumption)
                have q360 : x6_1 < (l1.length : Int) := of_decide_eq_true (by with_reducible assumption)
                obtain ⟨ad360, e360, hx360_0, hx360_1⟩ := at_T41 HR1.out x6_1 p360 q360
                obtain rfl : ad356 = ad360 := (by injection e360)
                replace hx360_0 := (HB.out.cell (World.block_lt_of_cell? w _ hx360_0)).trans hx360_0
                replace hx360_1 := (HB.out.cell (World.block_lt_of_cell? w _ hx360_1)).trans hx360_1
                replace p360 := eq_true p360
                replace q360 := eq_true q360
                have p361 : 0 ≤ (x8_2 : Int) := of_decide_eq_true (by with_reducible assumption)
                have q361 : x8_2 < (t357.length : Int) := of_decide_eq_true (by with_reducible assumption)
                obtain ⟨ad361, e361, hx361_0, hx361_1, hx361_2⟩ := at_T51 (Kd.R_reads' HO_7.out).2.2 x8_2 p361 q361
                cases e361
                replace p361 := eq_true p361
                replace q361 := eq_true q361
                have p362 : 0 ≤ (x8_2 : Int) := of_decide_eq_true (by with_reducible assumption)
                have q362 : x8_2 < (t357.length : Int) := of_decide_eq_true (by with_reducible assumption)
                obtain ⟨ad362, e362, hx362_0, hx362_1, hx362_2⟩ := at_T51 (Kd.R_reads' HO_7.out).2.2 x8_2 p362 q362
                obtain rfl : ad361 = ad362 := (by injection e362)
                replace p362 := eq_true p362
                replace q362 := eq_true q362
                have p363 : 0 ≤ (x8_2 : Int) := of_decide_eq_true (by with_reducible assumption)
                have q363 : x8_2 < (t357.length : Int) := of_decide_eq_true (by with_reducible assumption)
                obtain ⟨ad363, e363, hx363_0, hx363_1, hx363_2⟩ := at_T51 (Kd.R_reads' HO_7.out).2.2 x8_2 p363 q363
                obtain rfl : ad361 = ad363 := (by injection e363)
                replace p363 := eq_true p363
                replace q363 := eq_true q363
                go_wp2_with (fail)
                repeat (go_quiet (fail); try go_wp2_with (((with_reducible refine gate_builtin (b := .append) (xs := #[.tmp 45, .tmp 53]) rfl ?_); at_builtin; refine Kd.R_append k32 (w0 := w) w.heap.size rfl (.tmp 45) (.tmp 53) 28 32 (.agg #[(.int .i64 0), (.int .i64 0)]) 16 rfl Tryz.underlying28 info32 rfl (by decide) (by omega) u5 x5_2 (⟨x6_1, (rd_T51 t357 x8_2).f1⟩ : S32) [.int .i64 x6_1, .int .i64 ((rd_T51 t357 x8_2).f1)] (fun _ => True) (fun _ => False) rfl rfl ?aP (fun _ hk => hk.elim) ?aF ?aO ?aB ?aS ?aL ?_; (case aP => exact k32_mkM _ _ _ (⟨x6_1, (rd_T51 t357 x8_2).f1⟩ : S32)); (case aB => exact (by repeat ((with_reducible first | exact HB.out | apply pw_below_drewN )))); (case aF => exact (fun _ _ => trivial)); (case aO => exact (by (with_reducible repeat (apply Kd.R_drewN)); exact HO_5.out)); (case aS => exact (below_size (by repeat ((with_reducible first | exact HB.out | apply pw_below_drewN ))))); (case aL => have := LMc15.out; omega); intro v365 w17 ho hb hg hat; rw [← Ny364.out] at ho; have n0_ := Aside0.mk (Kd.R_over' (by (with_reducible repeat (apply Kd.R_drewN)); exact HO_7.out) (Kd.R_typed (by (with_reducible repeat (apply Kd.R_drewN)); exact HO_5.out)) (by decide) hg); have n1_ := Aside0.mk (hb); have n2_ := Aside0.mk (ho); clear HO_7; clear HB; clear HO_5; have HO_7 := n0_; have HB := n1_; have HO366 := n2_; clear n0_ n1_ n2_; clear ho hb hg hat)))
                go_roundg k2
                case measure => have := HK1.out; have := HK2.out; omega
                case rel => exact ⟨(y364), (wrap64 (x8_2 + 1)), (by rfl), H', ⟨by have := HK1.out; have := HK2.out; omega⟩, ⟨by (with_reducible repeat (fail)); exact HO366.out⟩, ⟨by (with_reducible repeat (fail)); exact HO_7.out⟩, ⟨by repeat (with_reducible exact HB.out)⟩⟩
               ·rw [if_neg c15] at H
                exact absurd H (by simp)
              ·rw [if_neg c14] at H
               have c14b0 : ((((rd_T41 l1 x6_1).f1).extract (((rd_T51 t357 x8_2).f1) : Int).toNat (((rd_T51 t357 x8_2).f2) : Int).toNat).toList == a0.toList) = false := beq_eq_false_iff_ne.mpr c14
               have c14b1 : ((((rd_T41 l1 x6_1).f1).extract (((rd_T51 t357 x8_2).f1) : Int).toNat (((rd_T51 t357 x8_2).f2) : Int).toNat).toList != a0.toList) = true := bne_iff_ne.mpr c14
               have H' := Aside0.mk H
               clear H
               obtain ⟨Ao18, co18, eo18⟩ := Kd.R_slice HO_7.out
               subst eo18
               have p360 : 0 ≤ (x6_1 : Int) := of_decide_eq_true (by with_reducible assumption)
               have q360 : x6_1 < (l1.length : Int) := of_decide_eq_true (by with_reducible assumption)
               obtain ⟨ad360, e360, hx360_0, hx360_1⟩ := at_T41 HR1.out x6_1 p360 q360
               obtain rfl : ad356 = ad360 := (by injection e360)
               replace hx360_0 := (HB.out.cell (World.block_lt_of_cell? w _ hx360_0)).trans hx360_0
               replace hx360_1 := (HB.out.cell (World.block_lt_of_cell? w _ hx360_1)).trans hx360_1
               replace p360 := eq_true p360
               replace q360 := eq_true q360
               have p361 : 0 ≤ (x8_2 : Int) := of_decide_eq_true (by with_reducible assumption)
               have q361 : x8_2 < (t357.length : Int) := of_decide_eq_true (by with_reducible assumption)
               obtain ⟨ad361, e361, hx361_0, hx361_1, hx361_2⟩ := at_T51 (Kd.R_reads' HO_7.out).2.2 x8_2 p361 q361
               cases e361
               replace p361 := eq_true p361
               replace q361 := eq_true q361
               have p362 : 0 ≤ (x8_2 : Int) := of_decide_eq_true (by with_reducible assumption)
               have q362 : x8_2 < (t357.length : Int) := of_decide_eq_true (by with_reducible assumption)
               obtain ⟨ad362, e362, hx362_0, hx362_1, hx362_2⟩ := at_T51 (Kd.R_reads' HO_7.out).2.2 x8_2 p362 q362
               obtain rfl : ad361 = ad362 := (by injection e362)
               replace p362 := eq_true p362
               replace q362 := eq_true q362
               go_wp2
               repeat (go_quiet (fail); try go_wp2)
               go_roundg k2
               case measure => have := HK1.out; have := HK2.out; omega
               case rel => exact ⟨(x5_2), (wrap64 (x8_2 + 1)), (by rfl), H', ⟨by have := HK1.out; have := HK2.out; omega⟩, ⟨by (with_reducible repeat (apply Kd.R_drewN)); exact HO_5.out⟩, ⟨by (with_reducible repeat (apply Kd.R_drewN)); exact HO_7.out⟩, ⟨by repeat ((with_reducible first | exact HB.out | apply pw_below_drewN ))⟩⟩
             ·rw [if_neg c13] at H
              exact absurd H (by simp)
            ·rw [if_neg c12] at H
             exact absurd H (by simp)
           ·rw [if_neg c11] at H
            exact absurd H (by simp)
          ·rw [if_neg c10] at H
           exact absurd H (by simp)
         ·rw [if_neg c9] at H
          exact absurd H (by simp)
        ·rw [if_neg c8] at H
         exact absurd H (by simp)
       ·rw [if_neg c7] at H
        have c7b0 : decide (x8_2 < (t357.length : Int)) = false := decide_eq_false c7
        clear c7
        have H' := Aside0.mk H
        clear H
        obtain ⟨Ao19, co19, eo19⟩ := Kd.R_slice HO_7.out
        subst eo19
        go_wp2
        repeat (go_quiet (fail); try go_wp2)
        go_roundg k2
        case measure => have := HK1.out; have := HK2.out; omega
        case rel => exact ⟨(x5_2), (wrap64 (x6_1 + 1)), (by rfl), H', ⟨by have := HK1.out; have := HK2.out; omega⟩, ⟨by (with_reducible repeat (fail)); exact HO_5.out⟩, ⟨by repeat (with_reducible exact HB.out)⟩⟩
    ·rw [if_neg c4] at H
     exact absurd H (by simp)
   ·rw [if_neg c3] at H
    have c3b0 : decide (x6_1 < (l1.length : Int)) = false := decide_eq_false c3
    clear c3
    obtain rfl := Option.some.inj H
    go_wp2
    repeat (go_quiet (fail); try go_wp2)
    go_ret
    exact ⟨_, by rfl, by (with_reducible repeat (fail)); exact HO_5.out, by repeat (with_reducible exact HB.out)⟩

/-! ### spell_Free: function 14 -/
def spell_Free.f (k : Nat) (a0 : ByteArray) (l1 : List S41) : Option Bool := (name_Alike.f k a0 a0).bind fun t => if t = true then (if a0.size ≤ 1000000 then (spell_spelled.f k l1).bind fun P => some (decide ((Gp P a0.data.toList).length = 0)) else none) else some false
theorem spell_Free.mono : ∀ a0 a1 k, LeO (spell_Free.f k a0 a1) (spell_Free.f (k + 1) a0 a1) := fun a0 a1 k => LeO.bind (name_Alike.mono a0 a0 k) fun _ => LeO.ite (LeO.ite (LeO.bind (spell_spelled.mono a1 k) fun _ => LeO.refl _) (LeO.refl _)) (LeO.refl _)
set_option maxHeartbeats 2000000 in
set_option maxRecDepth 100000 in
theorem spell_Free.calls (k : Nat) (a0 : ByteArray) (A1 : Option Addr) (c1 : Nat) (l1 : List S41) (r : Bool) (w : World) (hr1 : Kd.C k41 w A1 l1.length l1) (hc1 : l1.length ≤ c1) (h : spell_Free.f k a0 l1 = some r) :
  Calls Tryz.prog 14 #[.string a0, .slice A1 l1.length c1] w fun e w' => e = .returned (.bool r) ∧ Below w.heap.size w w' := by
 unfold spell_Free.f at h
 obtain ⟨t, ht, h⟩ := Option.bind_eq_some_iff.1 h
 have HA := Aside0.mk (fun (W : World) => name_Alike.calls k a0 a0 t W ht)
 clear ht
 cases t with
 | false =>
  rw [if_neg Bool.false_ne_true] at h
  obtain rfl := Option.some.inj h
  clear hr1 hc1 h
  generalize l1.length = m
  go_enter Tryz.func14, Tryz.ntmps14
  go_wp2_with (go_at_call 18; with_reducible refine (HA.out _).mono ?_; rintro e w2 ⟨rfl, hb⟩; have HB := Aside0.mk hb; clear hb)
  go_ret
  exact ⟨rfl, HB.out⟩
 | true =>
  rw [if_pos rfl] at h
  by_cases hs : a0.size ≤ 1000000
  case neg => rw [if_neg hs] at h; cases h
  rw [if_pos hs] at h
  obtain ⟨P, hP, h⟩ := Option.bind_eq_some_iff.1 h
  obtain rfl := Option.some.inj h
  have HS := Aside0.mk (fun (W : World) (hb : Below w.heap.size w W) => spell_spelled.calls k A1 c1 l1 P W (Kd.C_below hr1 hb) hc1 hP)
  obtain ⟨m, hm⟩ : ∃ m, l1.length = m := ⟨_, rfl⟩
  rw [hm] at HS ⊢
  have hks : a0.size ≤ maxLen := by unfold maxLen; omega
  obtain ⟨nV, hnV⟩ : ∃ nV, (Gp P a0.data.toList).length = nV := ⟨_, rfl⟩
  rw [hnV]
  have HNV := Lib.hid hnV
  clear hr1 hc1 hP h hm hs hnV
  have step : ∀ q : Bool, decide (nV = 0) = q → Calls Tryz.prog 14 #[.string a0, .slice A1 m c1] w fun e w' => e = .returned (.bool q) ∧ Below w.heap.size w w' := by
   intro q hq
   have hq2 : ((nV : Int) == 0) = q := by
    rw [← hq, Bool.eq_iff_iff]
    simp
   clear hq
   go_enter Tryz.func14, Tryz.ntmps14
   go_wp2_with (first | (go_at_call 18; with_reducible refine (HA.out _).mono ?_; rintro e w2 ⟨rfl, hb⟩; have HB := Aside0.mk hb; clear hb) | (go_at_call 17; with_reducible refine (HS.out _ HB.out).mono ?_; rintro e w3 ⟨b, n, D, V, rfl, hn, hG⟩; have HG := Aside0.mk hG; have hlk := hG.look a0 hks; have hrow := hG.row a0.data.toList; obtain ⟨AV, cV, eV⟩ := Kd.R_slice hrow; rw [HNV.out] at eV; rw [eV] at hlk; clear hG hn hrow eV))
   go_ret
   exact ⟨rfl, below_step HB.out HG.out.below⟩
  exact step _ rfl

end Go.Proofs.YtfccifekaokibaaGreatDoor.QT

