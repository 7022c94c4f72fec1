-- Laid by this claim's own program (mprint.py in the repo).
import Derived.Test.YtfccifekaokibaaGreatDoorQTx0
import Derived.Test.YtfccifekaokibaaGreatDoorQTx9
namespace Go.Proofs.YtfccifekaokibaaGreatDoor.QT
open Go.RowKit Go.Proofs.YtfccifekaokibaaGreatDoorW.PrintWords Go.Proofs.YtfccifekaokibaaGreatDoorW.PrintLast Go.Proofs.YtfccifekaokibaaGreatDoorW.PrintMore
attribute [local go_sem] max2_int min2_int max_two min_two max_three min_three max_four min_four   -- for this text's walks alone
set_option linter.unusedVariables false
set_option linter.unusedSimpArgs false

/-! ### slices_Index_string_string: function 56 -/
def slices_Index_string_string.l0 : Nat → List ByteArray → ByteArray → Int → Int → Option (Int)
 | 0, _, _, _, _ => none
 | k + 1, x0, x1, x7, x8 => if x8 < x7 then (if 0 ≤ x8 then (if x8 < (x0.length : Int) then (if x1.toList = (rdOf ByteArray.empty x0 x8).toList then (some x8) else (slices_Index_string_string.l0 k x0 x1 x7 (wrap64 (x8 + 1)))) else (none)) else (none)) else (some (-1))
def slices_Index_string_string.f (k : Nat) (l0 : List ByteArray) (a1 : ByteArray) : Option (Int) := slices_Index_string_string.l0 k l0 a1 (l0.length : Int) 0
theorem slices_Index_string_string.mono_l : ∀ k, (∀ y0 y1 y2 y3, LeO (slices_Index_string_string.l0 k y0 y1 y2 y3) (slices_Index_string_string.l0 (k + 1) y0 y1 y2 y3))
 | 0 => fun _ _ _ _ r h => by simp [slices_Index_string_string.l0] at h
 | k + 1 => by
  have ih0 := slices_Index_string_string.mono_l k
  ·intro y0 y1 y2 y3
   unfold slices_Index_string_string.l0
   repeat' first
   | (with_reducible exact ih0 _ _ _ _)
   | (with_reducible exact LeO.refl _)
   | (with_reducible refine LeO.ite ?_ ?_)
theorem slices_Index_string_string.mono : ∀ a0 a1 k, LeO (slices_Index_string_string.f k a0 a1) (slices_Index_string_string.f (k + 1) a0 a1) := by
 intro a0 a1 k
 have ih0 := slices_Index_string_string.mono_l k
 unfold slices_Index_string_string.f
 repeat' with_reducible exact ih0 _ _ _ _
set_option maxHeartbeats 8000000 in
set_option maxRecDepth 100000 in
theorem slices_Index_string_string.calls (k : Nat) (A0 : Option Addr) (c0 : Nat) (l0 : List ByteArray) (a1 : ByteArray) (r : Int) (w : World) (hr0 : Kd.C Kd.string w A0 l0.length l0) (hc0 : l0.length ≤ c0) (h : slices_Index_string_string.f k l0 a1 = some r) :
  Calls Tryz.prog 56 #[.slice A0 l0.length c0, .string a1] w fun e w' => e = .returned (.int .i64 r) ∧ Drawn0 w w' := by
 have HR0 := Aside0.mk hr0
 have HC0 := Aside0.mk hc0
 clear hr0 hc0
 have H : (slices_Index_string_string.l0 k l0 a1 (l0.length : Int) 0) = some r := h
 clear h
 have H' := Aside0.mk H
 clear H
 go_enter Tryz.func56, Tryz.ntmps56
 go_wp2
 go_loopg [8] k (fun kq v8 w' => ∃ (x8_1 : Int), v8 = .int .i64 x8_1 ∧ Aside0 (slices_Index_string_string.l0 kq l0 a1 (l0.length : Int) x8_1 = some r) ∧ Aside0 (kq ≤ k) ∧ Drawn0 w w')
 case atStart => exact ⟨(0), (by rfl), H', ⟨Nat.le_refl _⟩, by repeat (exact Drawn0.refl _)⟩
 case round =>
  clear H'
  obtain ⟨x8_1, rfl, HA, HK1, ⟨m1, rfl⟩⟩ := hrel
  cases gk with
  | zero => exact absurd HA.out (by simp [slices_Index_string_string.l0])
  | succ k1 =>
   have H := HA.out
   clear HA
   simp only [slices_Index_string_string.l0] at H
   by_cases c3 : x8_1 < (l0.length : Int)
   ·rw [if_pos c3] at H
    have c3b0 : decide (x8_1 < (l0.length : Int)) = true := decide_eq_true c3
    clear c3
    by_cases c4 : 0 ≤ x8_1
    ·rw [if_pos c4] at H
     have c4b0 : decide (0 ≤ x8_1) = true := decide_eq_true c4
     clear c4
     by_cases c5 : x8_1 < (l0.length : Int)
     ·rw [if_pos c5] at H
      have c5b0 : decide (x8_1 < (l0.length : Int)) = true := decide_eq_true c5
      clear c5
      by_cases c6 : a1.toList = (rdOf ByteArray.empty l0 x8_1).toList
      ·rw [if_pos c6] at H
       have c6b0 : (a1.toList == (rdOf ByteArray.empty l0 x8_1).toList) = true := beq_iff_eq.mpr c6
       have c6b1 : (a1.toList != (rdOf ByteArray.empty l0 x8_1).toList) = false := bne_eq_false_iff_eq.mpr c6
       clear c6
       obtain rfl := Option.some.inj H
       have p153 : 0 ≤ (x8_1 : Int) := of_decide_eq_true (by with_reducible assumption)
       have q153 : x8_1 < (l0.length : Int) := of_decide_eq_true (by with_reducible assumption)
       obtain ⟨ad153, e153, hx153_0⟩ := Kd.at_string HR0.out x8_1 p153 q153
       cases e153
       replace p153 := eq_true p153
       replace q153 := eq_true q153
       go_wp2
       go_ret
       exact ⟨by rfl, by repeat (first | exact Drawn0.refl _ | apply Drawn0.step)⟩
      ·rw [if_neg c6] at H
       have c6b0 : (a1.toList == (rdOf ByteArray.empty l0 x8_1).toList) = false := beq_eq_false_iff_ne.mpr c6
       have c6b1 : (a1.toList != (rdOf ByteArray.empty l0 x8_1).toList) = true := bne_iff_ne.mpr c6
       have H' := Aside0.mk H
       clear H
       have p153 : 0 ≤ (x8_1 : Int) := of_decide_eq_true (by with_reducible assumption)
       have q153 : x8_1 < (l0.length : Int) := of_decide_eq_true (by with_reducible assumption)
       obtain ⟨ad153, e153, hx153_0⟩ := Kd.at_string HR0.out x8_1 p153 q153
       cases e153
       replace p153 := eq_true p153
       replace q153 := eq_true q153
       go_wp2
       go_roundg k1
       case measure => have := HK1.out; omega
       case rel => exact ⟨(wrap64 (x8_1 + 1)), (by rfl), H', ⟨by have := HK1.out; omega⟩, by repeat (first | exact Drawn0.refl _ | apply Drawn0.step)⟩
     ·rw [if_neg c5] at H
      exact absurd H (by simp)
    ·rw [if_neg c4] at H
     exact absurd H (by simp)
   ·rw [if_neg c3] at H
    have c3b0 : decide (x8_1 < (l0.length : Int)) = false := decide_eq_false c3
    clear c3
    obtain rfl := Option.some.inj H
    go_wp2
    go_ret
    exact ⟨by rfl, by repeat (first | exact Drawn0.refl _ | apply Drawn0.step)⟩

/-! ### slices_Contains_string_string: function 41 -/
def slices_Contains_string_string.f (k : Nat) (l0 : List ByteArray) (a1 : ByteArray) : Option (Bool) := (slices_Index_string_string.f k l0 a1).bind fun t154 => (some (decide (t154 ≥ 0)))
theorem slices_Contains_string_string.mono : ∀ a0 a1 k, LeO (slices_Contains_string_string.f k a0 a1) (slices_Contains_string_string.f (k + 1) a0 a1) := by
 intro a0 a1 k
 unfold slices_Contains_string_string.f
 repeat' first
   | (with_reducible exact slices_Index_string_string.mono _ _ _)
   | (with_reducible exact LeO.refl _)
   | (with_reducible refine LeO.bind ?_ (fun _ => ?_))
set_option maxHeartbeats 8000000 in
set_option maxRecDepth 100000 in
theorem slices_Contains_string_string.calls (k : Nat) (A0 : Option Addr) (c0 : Nat) (l0 : List ByteArray) (a1 : ByteArray) (r : Bool) (w : World) (hr0 : Kd.C Kd.string w A0 l0.length l0) (hc0 : l0.length ≤ c0) (h : slices_Contains_string_string.f k l0 a1 = some r) :
  Calls Tryz.prog 41 #[.slice A0 l0.length c0, .string a1] w fun e w' => e = .returned (.bool r) ∧ Drawn0 w w' := by
 have HR0 := Aside0.mk hr0
 have HC0 := Aside0.mk hc0
 clear hr0 hc0
 have H : ((slices_Index_string_string.f k l0 a1).bind fun t154 => (some (decide (t154 ≥ 0)))) = some r := h
 clear h
 replace H := Option.bind_eq_some_iff.mp H
 obtain ⟨t154, A30, H⟩ := H
 replace H : (some (decide (t154 ≥ 0))) = some r := H
 have A3 := Aside0.mk A30
 clear A30
 obtain rfl := Option.some.inj H
 go_enter Tryz.func41, Tryz.ntmps41
 go_wp2_with (((with_reducible refine gate_callee (f := 56) rfl ?_); refine goesL_ (some 7) rfl rfl Tryz.func56 (by kernel_rfl) rfl #[.slice A0 l0.length c0, .string a1] rfl (by (try simp only [List.map_toArray, List.map_cons, List.map_nil]); rfl) ?_; (with_reducible refine (slices_Index_string_string.calls k _ _ l0 a1 t154 _ ?side1 ?side2 A3.out).mono ?_); (case side1 => repeat (exact HR0.out)); (case side2 => exact HC0.out); rintro e w' ⟨rfl, ⟨nd, rfl⟩⟩; refine ⟨_, rfl, ?_⟩))
 go_ret
 exact ⟨by rfl, by repeat (first | exact Drawn0.refl _ | apply Drawn0.step)⟩

/-! ### name_Fresh: function 16 -/
mutual
def name_Fresh.j0 : Nat → List ByteArray → ByteArray → Option (ByteArray × Bool)
 | 0, _, _ => none
 | k + 1, x1, x6 => name_Fresh.l0 k x1 x6 0
def name_Fresh.l0 : Nat → List ByteArray → ByteArray → Int → Option (ByteArray × Bool)
 | 0, _, _, _ => none
 | k + 1, x1, x6, x7 => name_Fresh.l1 k x1 x6 x7 (x6.size : Int) 0
def name_Fresh.l1 : Nat → List ByteArray → ByteArray → Int → Int → Int → Option (ByteArray × Bool)
 | 0, _, _, _, _, _ => none
 | k + 1, x1, x6, x7, x18, x19 => if x19 < x18 then (if 0 ≤ x19 then (if x19 ≤ (wrap64 (x19 + 1)) then (if (wrap64 (x19 + 1)) ≤ (x6.size : Int) then (if x7 > 0 then ((strconv_Itoa_40.f x7).bind fun t157 => (if (x6.extract (x19 : Int).toNat ((wrap64 (x19 + 1)) : Int).toNat).size + t157.size ≤ 9223372036854775807 then ((slices_Contains_string_string.f k x1 ((x6.extract (x19 : Int).toNat ((wrap64 (x19 + 1)) : Int).toNat) ++ t157)).bind fun t158 => (if t158 = true then (name_Fresh.l1 k x1 x6 x7 x18 (wrap64 (x19 + 1))) else (some ((x6.extract (x19 : Int).toNat ((wrap64 (x19 + 1)) : Int).toNat) ++ t157, true)))) else (none))) else ((slices_Contains_string_string.f k x1 (x6.extract (x19 : Int).toNat ((wrap64 (x19 + 1)) : Int).toNat)).bind fun t159 => (if t159 = true then (name_Fresh.l1 k x1 x6 x7 x18 (wrap64 (x19 + 1))) else (some (x6.extract (x19 : Int).toNat ((wrap64 (x19 + 1)) : Int).toNat, true))))) else (none)) else (none)) else (none)) else (name_Fresh.l0 k x1 x6 (wrap64 (x7 + 1)))
end
def name_Fresh.f (k : Nat) (a0 : Int) (l1 : List ByteArray) : Option (ByteArray × Bool) := (name_Space.f a0).bind fun t155 => (if t155.toList = ([] : List UInt8) then (some ((⟨#[]⟩ : ByteArray), false)) else ((name_May.f k a0 (⟨#[88]⟩ : ByteArray)).bind fun t156 => (if t156 = true then (name_Fresh.j0 k l1 (⟨#[88, 89, 90]⟩ : ByteArray)) else (name_Fresh.j0 k l1 (⟨#[120, 121, 122]⟩ : ByteArray)))))
theorem name_Fresh.mono_l : ∀ k, (∀ y0 y1, LeO (name_Fresh.j0 k y0 y1) (name_Fresh.j0 (k + 1) y0 y1)) ∧ (∀ y0 y1 y2, LeO (name_Fresh.l0 k y0 y1 y2) (name_Fresh.l0 (k + 1) y0 y1 y2)) ∧ (∀ y0 y1 y2 y3 y4, LeO (name_Fresh.l1 k y0 y1 y2 y3 y4) (name_Fresh.l1 (k + 1) y0 y1 y2 y3 y4))
 | 0 => ⟨fun _ _ r h => by simp [name_Fresh.j0] at h, fun _ _ _ r h => by simp [name_Fresh.l0] at h, fun _ _ _ _ _ r h => by simp [name_Fresh.l1] at h⟩
 | k + 1 => by
  obtain ⟨ih0, ih1, ih2⟩ := name_Fresh.mono_l k
  refine ⟨?_, ?_, ?_⟩
  ·intro y0 y1
   unfold name_Fresh.j0
   repeat' with_reducible exact ih1 _ _ _
  ·intro y0 y1 y2
   unfold name_Fresh.l0
   repeat' with_reducible exact ih2 _ _ _ _ _
  ·intro y0 y1 y2 y3 y4
   unfold name_Fresh.l1
   repeat' first
   | (with_reducible exact ih1 _ _ _)
   | (with_reducible exact ih2 _ _ _ _ _)
   | (with_reducible exact slices_Contains_string_string.mono _ _ _)
   | (with_reducible exact LeO.refl _)
   | (with_reducible refine LeO.ite ?_ ?_)
   | (with_reducible refine LeO.bind ?_ (fun _ => ?_))
theorem name_Fresh.mono : ∀ a0 a1 k, LeO (name_Fresh.f k a0 a1) (name_Fresh.f (k + 1) a0 a1) := by
 intro a0 a1 k
 obtain ⟨ih0, ih1, ih2⟩ := name_Fresh.mono_l k
 unfold name_Fresh.f
 repeat' first
   | (with_reducible exact ih0 _ _)
   | (with_reducible exact name_May.mono _ _ _)
   | (with_reducible exact LeO.refl _)
   | (with_reducible refine LeO.ite ?_ ?_)
   | (with_reducible refine LeO.bind ?_ (fun _ => ?_))
set_option maxHeartbeats 8000000 in
set_option maxRecDepth 100000 in
theorem name_Fresh.calls (k : Nat) (a0 : Int) (A1 : Option Addr) (c1 : Nat) (l1 : List ByteArray) (r1 : ByteArray) (r2 : Bool) (w : World) (hr1 : Kd.C Kd.string w A1 l1.length l1) (hc1 : l1.length ≤ c1) (h : name_Fresh.f k a0 l1 = some (r1, r2)) (htab : Lib.TabIs Tryz.prog w "internal/strconv.uint64pow10" .u64 Lib.pow10Tab) :
  Calls Tryz.prog 16 #[.int .i64 a0, .slice A1 l1.length c1] w fun e w' => e = .returned (.tuple #[.string r1, .bool r2]) ∧ Below w.heap.size w w' := by
 have HTAB := Aside0.mk htab
 clear htab
 have HR1 := Aside0.mk hr1
 have HC1 := Aside0.mk hc1
 clear hr1 hc1
 have HB := Aside0.mk (Below.refl w.heap.size w)
 have H : ((name_Space.f a0).bind fun t155 => (if t155.toList = ([] : List UInt8) then (some ((⟨#[]⟩ : ByteArray), false)) else ((name_May.f k a0 (⟨#[88]⟩ : ByteArray)).bind fun t156 => (if t156 = true then (name_Fresh.j0 k l1 (⟨#[88, 89, 90]⟩ : ByteArray)) else (name_Fresh.j0 k l1 (⟨#[120, 121, 122]⟩ : ByteArray)))))) = some (r1, r2) := h
 clear h
 replace H := Option.bind_eq_some_iff.mp H
 obtain ⟨t155, A30, H⟩ := H
 replace H : (if t155.toList = ([] : List UInt8) then (some ((⟨#[]⟩ : ByteArray), false)) else ((name_May.f k a0 (⟨#[88]⟩ : ByteArray)).bind fun t156 => (if t156 = true then (name_Fresh.j0 k l1 (⟨#[88, 89, 90]⟩ : ByteArray)) else (name_Fresh.j0 k l1 (⟨#[120, 121, 122]⟩ : ByteArray))))) = some (r1, r2) := H
 have A3 := Aside0.mk A30
 clear A30
 by_cases c4 : t155.toList = ([] : List UInt8)
 ·rw [if_pos c4] at H
  have c4b0 : (t155.toList == ([] : List UInt8)) = true := beq_iff_eq.mpr c4
  have c4b1 : (t155.toList != ([] : List UInt8)) = false := bne_eq_false_iff_eq.mpr c4
  clear c4
  simp only [Option.some.injEq, Prod.mk.injEq] at H
  obtain ⟨rfl, rfl⟩ := H
  go_enter Tryz.func16, Tryz.ntmps16
  go_wp2_with (((with_reducible refine gate_callee (f := 38) rfl ?_); refine goesL_ (some 11) rfl rfl Tryz.func38 (by kernel_rfl) rfl #[.int .i64 a0] rfl (by (try simp only [List.map_toArray, List.map_cons, List.map_nil]); rfl) ?_; (with_reducible refine (name_Space.calls a0 t155 _ A3.out).mono ?_); rintro e w5 ⟨rfl, hb⟩; refine ⟨_, rfl, ?_⟩; have n0_ := Aside0.mk (below_step (by repeat (with_reducible exact HB.out)) hb); clear HB; have HB := n0_; clear n0_; (try clear hb); (try clear hb2); (try clear hk); (try clear hi)))
  go_ret2
  exact ⟨by rfl, by repeat (with_reducible exact HB.out)⟩
 ·rw [if_neg c4] at H
  have c4b0 : (t155.toList == ([] : List UInt8)) = false := beq_eq_false_iff_ne.mpr c4
  have c4b1 : (t155.toList != ([] : List UInt8)) = true := bne_iff_ne.mpr c4
  replace H := Option.bind_eq_some_iff.mp H
  obtain ⟨t156, A60, H⟩ := H
  replace H : (if t156 = true then (name_Fresh.j0 k l1 (⟨#[88, 89, 90]⟩ : ByteArray)) else (name_Fresh.j0 k l1 (⟨#[120, 121, 122]⟩ : ByteArray))) = some (r1, r2) := H
  have A6 := Aside0.mk A60
  clear A60
  have HC7 := Aside0.mk H
  clear H
  go_enter Tryz.func16, Tryz.ntmps16
  go_upto_if 14 with (first | ((with_reducible refine gate_callee (f := 38) rfl ?_); refine goesL_ (some 11) rfl rfl Tryz.func38 (by kernel_rfl) rfl #[.int .i64 a0] rfl (by (try simp only [List.map_toArray, List.map_cons, List.map_nil]); rfl) ?_; (with_reducible refine (name_Space.calls a0 t155 _ A3.out).mono ?_); rintro e w8 ⟨rfl, hb⟩; refine ⟨_, rfl, ?_⟩; have n0_ := Aside0.mk (below_step (by repeat (with_reducible exact HB.out)) hb); clear HB; have HB := n0_; clear n0_; (try clear hb); (try clear hb2); (try clear hk); (try clear hi)) | ((with_reducible refine gate_callee (f := 39) rfl ?_); refine goesL_ (some 14) rfl rfl Tryz.func39 (by kernel_rfl) rfl #[.int .i64 a0, .string (⟨#[88]⟩ : ByteArray)] rfl (by (try simp only [List.map_toArray, List.map_cons, List.map_nil]); rfl) ?_; (with_reducible refine (name_May.calls k a0 (⟨#[88]⟩ : ByteArray) t156 _ A6.out).mono ?_); rintro e w9 ⟨rfl, hb⟩; refine ⟨_, rfl, ?_⟩; have n0_ := Aside0.mk (below_step (by repeat (with_reducible exact HB.out)) hb); clear HB; have HB := n0_; clear n0_; (try clear hb); (try clear hb2); (try clear hk); (try clear hi)))
  (try simp only [Act.put, List.setIfInBounds_toArray, List.set_cons_zero, List.set_cons_succ])
  go_cut [6] (fun v6 wc => ∃ (kq : Nat) (x6_6 : ByteArray), v6 = .string x6_6 ∧ Aside0 (name_Fresh.j0 kq l1 x6_6 = some (r1, r2)) ∧ Aside0 (kq ≤ k) ∧ Aside0 (Below w.heap.size w wc))
  case first =>
   have H := HC7.out
   clear HC7
   by_cases c10 : t156 = true
   ·subst c10
    have H1 : (name_Fresh.j0 k l1 (⟨#[88, 89, 90]⟩ : ByteArray)) = some (r1, r2) := by rw [if_pos rfl] at H; exact H
    clear H
    have H := H1
    clear H1
    have H' := Aside0.mk H
    clear H
    go_wp2
    go_meet
    case rel => exact ⟨_, ((⟨#[88, 89, 90]⟩ : ByteArray)), (by rfl), H', ⟨by omega⟩, ⟨by repeat (with_reducible exact HB.out)⟩⟩
   ·replace c10 := Bool.eq_false_iff.mpr c10
    subst c10
    have H1 : (name_Fresh.j0 k l1 (⟨#[120, 121, 122]⟩ : ByteArray)) = some (r1, r2) := by rw [if_neg (show ¬ (false = true) by decide)] at H; exact H
    clear H
    have H := H1
    clear H1
    have H' := Aside0.mk H
    clear H
    go_wp2
    go_meet
    case rel => exact ⟨_, ((⟨#[120, 121, 122]⟩ : ByteArray)), (by rfl), H', ⟨by omega⟩, ⟨by repeat (with_reducible exact HB.out)⟩⟩
  case rest =>
   clear HC7
   clear c4 c4b0 c4b1
   obtain ⟨kq, x6_6, rfl, HA, HJ6, HB⟩ := hcut
   cases kq with
   | zero => exact absurd HA.out (by simp [name_Fresh.j0])
   | succ kj6 =>
    have H := HA.out
    clear HA
    simp only [name_Fresh.j0] at H
    have H' := Aside0.mk H
    clear H
    go_wp2
    go_loopg [7] kj6 (fun kq v7 w' => ∃ (x7_2 : Int), v7 = .int .i64 x7_2 ∧ Aside0 (name_Fresh.l0 kq l1 x6_6 x7_2 = some (r1, r2)) ∧ Aside0 (kq ≤ kj6) ∧ Aside0 (Below w.heap.size w w'))
    case atStart => exact ⟨(0), (by rfl), H', ⟨Nat.le_refl _⟩, ⟨by repeat (with_reducible exact HB.out)⟩⟩
    case round =>
     clear H'
     obtain ⟨x7_2, rfl, HA, HK2, HB⟩ := hrel
     cases gk with
     | zero => exact absurd HA.out (by simp [name_Fresh.l0])
     | succ k2 =>
      have H := HA.out
      clear HA
      simp only [name_Fresh.l0] at H
      have H' := Aside0.mk H
      clear H
      go_wp2
      go_loopg [19] k2 (fun kq v19 w' => ∃ (x19_3 : Int), v19 = .int .i64 x19_3 ∧ Aside0 (name_Fresh.l1 kq l1 x6_6 x7_2 (x6_6.size : Int) x19_3 = some (r1, r2)) ∧ Aside0 (kq ≤ k2) ∧ Aside0 (Below w.heap.size w w'))
      case atStart => exact ⟨(0), (by rfl), H', ⟨Nat.le_refl _⟩, ⟨by repeat (with_reducible exact HB.out)⟩⟩
      case round =>
       clear H'
       obtain ⟨x19_3, rfl, HA, HK3, HB⟩ := hrel
       cases gk with
       | zero => exact absurd HA.out (by simp [name_Fresh.l1])
       | succ k3 =>
        have H := HA.out
        clear HA
        simp only [name_Fresh.l1] at H
        by_cases c11 : x19_3 < (x6_6.size : Int)
        ·rw [if_pos c11] at H
         have c11b0 : decide (x19_3 < (x6_6.size : Int)) = true := decide_eq_true c11
         clear c11
         by_cases c12 : 0 ≤ x19_3
         ·rw [if_pos c12] at H
          have c12b0 := eq_true c12
          have c12b1 : decide (0 ≤ x19_3) = true := decide_eq_true c12
          clear c12
          by_cases c13 : x19_3 ≤ (wrap64 (x19_3 + 1))
          ·rw [if_pos c13] at H
           have c13b0 := eq_true c13
           have c13b1 : decide (x19_3 ≤ (wrap64 (x19_3 + 1))) = true := decide_eq_true c13
           by_cases c14 : (wrap64 (x19_3 + 1)) ≤ (x6_6.size : Int)
           ·rw [if_pos c14] at H
            have c14b0 := eq_true c14
            have c14b1 : decide ((wrap64 (x19_3 + 1)) ≤ (x6_6.size : Int)) = true := decide_eq_true c14
            by_cases c15 : x7_2 > 0
            ·rw [if_pos c15] at H
             have c15b0 : decide (0 < x7_2) = true := decide_eq_true c15
             clear c15
             replace H := Option.bind_eq_some_iff.mp H
             obtain ⟨t157, A160, H⟩ := H
             replace H : (if (x6_6.extract (x19_3 : Int).toNat ((wrap64 (x19_3 + 1)) : Int).toNat).size + t157.size ≤ 9223372036854775807 then ((slices_Contains_string_string.f k3 l1 ((x6_6.extract (x19_3 : Int).toNat ((wrap64 (x19_3 + 1)) : Int).toNat) ++ t157)).bind fun t158 => (if t158 = true then (name_Fresh.l1 k3 l1 x6_6 x7_2 (x6_6.size : Int) (wrap64 (x19_3 + 1))) else (some ((x6_6.extract (x19_3 : Int).toNat ((wrap64 (x19_3 + 1)) : Int).toNat) ++ t157, true)))) else (none)) = some (r1, r2) := H
             have A16 := Aside0.mk A160
             clear A160
             by_cases c17 : (x6_6.extract (x19_3 : Int).toNat ((wrap64 (x19_3 + 1)) : Int).toNat).size + t157.size ≤ 9223372036854775807
             ·rw [if_pos c17] at H
              have c17b0 := eq_true c17
              have c17b1 : decide ((x6_6.extract (x19_3 : Int).toNat ((wrap64 (x19_3 + 1)) : Int).toNat).size + t157.size ≤ 9223372036854775807) = true := decide_eq_true c17
              try have c17b2 : (9223372036854775807 < (x6_6.extract (x19_3 : Int).toNat ((wrap64 (x19_3 + 1)) : Int).toNat).size + t157.size) = False := eq_false (Nat.not_lt.2 c17)
              try have c17e : (((wrap64 (x19_3 + 1)) : Int).toNat - (x19_3 : Int).toNat) + t157.size ≤ 9223372036854775807 := by (have h_ := c17; (try simp only [ByteArray.size_append, ByteArray.size_extract] at h_); omega)
              try have c17f : (9223372036854775807 < (((wrap64 (x19_3 + 1)) : Int).toNat - (x19_3 : Int).toNat) + t157.size) = False := eq_false (Nat.not_lt.2 c17e)
              replace H := Option.bind_eq_some_iff.mp H
              obtain ⟨t158, A180, H⟩ := H
              replace H : (if t158 = true then (name_Fresh.l1 k3 l1 x6_6 x7_2 (x6_6.size : Int) (wrap64 (x19_3 + 1))) else (some ((x6_6.extract (x19_3 : Int).toNat ((wrap64 (x19_3 + 1)) : Int).toNat) ++ t157, true))) = some (r1, r2) := H
              have A18 := Aside0.mk A180
              clear A180
              by_cases c19 : t158 = true
              ·subst c19
               have H1 : (name_Fresh.l1 k3 l1 x6_6 x7_2 (x6_6.size : Int) (wrap64 (x19_3 + 1))) = some (r1, r2) := by rw [if_pos rfl] at H; exact H
               clear H
               have H := H1
               clear H1
               have H' := Aside0.mk H
               clear H
               go_wp2_with (first | ((with_reducible refine gate_callee (f := 40) rfl ?_); refine goesL_ (some 31) rfl rfl Tryz.func40 (by kernel_rfl) rfl #[.int .i64 x7_2] rfl (by (try simp only [List.map_toArray, List.map_cons, List.map_nil]); rfl) ?_; (with_reducible refine (strconv_Itoa_40.calls x7_2 t157 _ A16.out ?htab_).mono ?_); (case htab_ => exact tab_below HTAB.out (by repeat (with_reducible exact HB.out))); rintro e w20 ⟨rfl, hb⟩; refine ⟨_, rfl, ?_⟩; have n0_ := Aside0.mk (below_step (by repeat (with_reducible exact HB.out)) hb); clear HB; have HB := n0_; clear n0_; (try clear hb); (try clear hb2); (try clear hk); (try clear hi)) | ((with_reducible refine gate_callee (f := 41) rfl ?_); refine goesL_ (some 35) rfl rfl Tryz.func41 (by kernel_rfl) rfl #[.slice A1 l1.length c1, .string ((x6_6.extract (x19_3 : Int).toNat ((wrap64 (x19_3 + 1)) : Int).toNat) ++ t157)] rfl (by (try simp only [List.map_toArray, List.map_cons, List.map_nil]); rfl) ?_; (with_reducible refine (slices_Contains_string_string.calls k3 _ _ l1 ((x6_6.extract (x19_3 : Int).toNat ((wrap64 (x19_3 + 1)) : Int).toNat) ++ t157) true _ ?side1 ?side2 A18.out).mono ?_); (case side1 => repeat (exact (Kd.C_below HR1.out HB.out))); (case side2 => exact HC1.out); rintro e w' ⟨rfl, ⟨nd, rfl⟩⟩; refine ⟨_, rfl, ?_⟩))
               go_roundg k3
               case measure => have := HJ6.out; have := HK2.out; have := HK3.out; omega
               case rel => exact ⟨(wrap64 (x19_3 + 1)), (by rfl), H', ⟨by have := HJ6.out; have := HK2.out; have := HK3.out; omega⟩, ⟨by repeat ((with_reducible first | exact HB.out | apply pw_below_drewN ))⟩⟩
              ·replace c19 := Bool.eq_false_iff.mpr c19
               subst c19
               have H1 : (some ((x6_6.extract (x19_3 : Int).toNat ((wrap64 (x19_3 + 1)) : Int).toNat) ++ t157, true)) = some (r1, r2) := by rw [if_neg (show ¬ (false = true) by decide)] at H; exact H
               clear H
               have H := H1
               clear H1
               simp only [Option.some.injEq, Prod.mk.injEq] at H
               obtain ⟨rfl, rfl⟩ := H
               go_wp2_with (first | ((with_reducible refine gate_callee (f := 40) rfl ?_); refine goesL_ (some 31) rfl rfl Tryz.func40 (by kernel_rfl) rfl #[.int .i64 x7_2] rfl (by (try simp only [List.map_toArray, List.map_cons, List.map_nil]); rfl) ?_; (with_reducible refine (strconv_Itoa_40.calls x7_2 t157 _ A16.out ?htab_).mono ?_); (case htab_ => exact tab_below HTAB.out (by repeat (with_reducible exact HB.out))); rintro e w21 ⟨rfl, hb⟩; refine ⟨_, rfl, ?_⟩; have n0_ := Aside0.mk (below_step (by repeat (with_reducible exact HB.out)) hb); clear HB; have HB := n0_; clear n0_; (try clear hb); (try clear hb2); (try clear hk); (try clear hi)) | ((with_reducible refine gate_callee (f := 41) rfl ?_); refine goesL_ (some 35) rfl rfl Tryz.func41 (by kernel_rfl) rfl #[.slice A1 l1.length c1, .string ((x6_6.extract (x19_3 : Int).toNat ((wrap64 (x19_3 + 1)) : Int).toNat) ++ t157)] rfl (by (try simp only [List.map_toArray, List.map_cons, List.map_nil]); rfl) ?_; (with_reducible refine (slices_Contains_string_string.calls k3 _ _ l1 ((x6_6.extract (x19_3 : Int).toNat ((wrap64 (x19_3 + 1)) : Int).toNat) ++ t157) false _ ?side1 ?side2 A18.out).mono ?_); (case side1 => repeat (exact (Kd.C_below HR1.out HB.out))); (case side2 => exact HC1.out); rintro e w' ⟨rfl, ⟨nd, rfl⟩⟩; refine ⟨_, rfl, ?_⟩))
               go_ret2
               exact ⟨by rfl, by repeat ((with_reducible first | exact HB.out | apply pw_below_drewN ))⟩
             ·rw [if_neg c17] at H
              exact absurd H (by simp)
            ·rw [if_neg c15] at H
             have c15b0 : decide (0 < x7_2) = false := decide_eq_false c15
             clear c15
             replace H := Option.bind_eq_some_iff.mp H
             obtain ⟨t159, A220, H⟩ := H
             replace H : (if t159 = true then (name_Fresh.l1 k3 l1 x6_6 x7_2 (x6_6.size : Int) (wrap64 (x19_3 + 1))) else (some (x6_6.extract (x19_3 : Int).toNat ((wrap64 (x19_3 + 1)) : Int).toNat, true))) = some (r1, r2) := H
             have A22 := Aside0.mk A220
             clear A220
             by_cases c23 : t159 = true
             ·subst c23
              have H1 : (name_Fresh.l1 k3 l1 x6_6 x7_2 (x6_6.size : Int) (wrap64 (x19_3 + 1))) = some (r1, r2) := by rw [if_pos rfl] at H; exact H
              clear H
              have H := H1
              clear H1
              have H' := Aside0.mk H
              clear H
              go_wp2_with (((with_reducible refine gate_callee (f := 41) rfl ?_); refine goesL_ (some 35) rfl rfl Tryz.func41 (by kernel_rfl) rfl #[.slice A1 l1.length c1, .string (x6_6.extract (x19_3 : Int).toNat ((wrap64 (x19_3 + 1)) : Int).toNat)] rfl (by (try simp only [List.map_toArray, List.map_cons, List.map_nil]); rfl) ?_; (with_reducible refine (slices_Contains_string_string.calls k3 _ _ l1 (x6_6.extract (x19_3 : Int).toNat ((wrap64 (x19_3 + 1)) : Int).toNat) true _ ?side1 ?side2 A22.out).mono ?_); (case side1 => repeat (exact (Kd.C_below HR1.out HB.out))); (case side2 => exact HC1.out); rintro e w' ⟨rfl, ⟨nd, rfl⟩⟩; refine ⟨_, rfl, ?_⟩))
              go_roundg k3
              case measure => have := HJ6.out; have := HK2.out; have := HK3.out; omega
              case rel => exact ⟨(wrap64 (x19_3 + 1)), (by rfl), H', ⟨by have := HJ6.out; have := HK2.out; have := HK3.out; omega⟩, ⟨by repeat ((with_reducible first | exact HB.out | apply pw_below_drewN ))⟩⟩
             ·replace c23 := Bool.eq_false_iff.mpr c23
              subst c23
              have H1 : (some (x6_6.extract (x19_3 : Int).toNat ((wrap64 (x19_3 + 1)) : Int).toNat, true)) = some (r1, r2) := by rw [if_neg (show ¬ (false = true) by decide)] at H; exact H
              clear H
              have H := H1
              clear H1
              simp only [Option.some.injEq, Prod.mk.injEq] at H
              obtain ⟨rfl, rfl⟩ := H
              go_wp2_with (((with_reducible refine gate_callee (f := 41) rfl ?_); refine goesL_ (some 35) rfl rfl Tryz.func41 (by kernel_rfl) rfl #[.slice A1 l1.length c1, .string (x6_6.extract (x19_3 : Int).toNat ((wrap64 (x19_3 + 1)) : Int).toNat)] rfl (by (try simp only [List.map_toArray, List.map_cons, List.map_nil]); rfl) ?_; (with_reducible refine (slices_Contains_string_string.calls k3 _ _ l1 (x6_6.extract (x19_3 : Int).toNat ((wrap64 (x19_3 + 1)) : Int).toNat) false _ ?side1 ?side2 A22.out).mono ?_); (case side1 => repeat (exact (Kd.C_below HR1.out HB.out))); (case side2 => exact HC1.out); rintro e w' ⟨rfl, ⟨nd, rfl⟩⟩; refine ⟨_, rfl, ?_⟩))
              go_ret2
              exact ⟨by rfl, by repeat ((with_reducible first | exact HB.out | apply pw_below_drewN ))⟩
           ·rw [if_neg c14] at H
            exact absurd H (by simp)
          ·rw [if_neg c13] at H
           exact absurd H (by simp)
         ·rw [if_neg c12] at H
          exact absurd H (by simp)
        ·rw [if_neg c11] at H
         have c11b0 : decide (x19_3 < (x6_6.size : Int)) = false := decide_eq_false c11
         clear c11
         have H' := Aside0.mk H
         clear H
         go_wp2
         go_roundg k3
         case measure => have := HJ6.out; have := HK2.out; have := HK3.out; omega
         case rel => exact ⟨(wrap64 (x7_2 + 1)), (by rfl), H', ⟨by have := HJ6.out; have := HK2.out; have := HK3.out; omega⟩, ⟨by repeat (with_reducible exact HB.out)⟩⟩

end Go.Proofs.YtfccifekaokibaaGreatDoor.QT

