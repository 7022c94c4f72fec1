-- Laid by this claim's own program (mprint.py in the repo).
import Derived.Test.YtfccifekaokibaaDoorQFx0
import Derived.Test.YtfccifekaokibaaDoorQFx3
import Derived.Test.YtfccifekaokibaaDoorQFx4
import Derived.Test.YtfccifekaokibaaDoorQFx9
namespace Go.Proofs.YtfccifekaokibaaDoor.QF
open Go.RowKit Go.Proofs.YtfccifekaokibaaDoorW.PrintWords Go.Proofs.YtfccifekaokibaaDoorW.PrintLast Go.Proofs.YtfccifekaokibaaDoorW.PrintMore
attribute [local go_sem] max2_int min2_int max_two min_two max_three min_three max_four min_four   -- for this text's walks alone
set_option linter.unusedVariables false
set_option linter.unusedSimpArgs false

/-! ### slices_Index_string_string: function 40 -/
def slices_Index_string_string.l0 : Nat → List ByteArray → ByteArray → Int → Int → Option (Int)
  | 0, _, _, _, _ => none
  | k + 1, x0, x1, x7, x8 => if x8 < x7 then (if 0 ≤ x8 then (if x8 < (x0.length : Int) then (if x1.toList = (rdOf ByteArray.empty x0 x8).toList then (some x8) else (slices_Index_string_string.l0 k x0 x1 x7 (wrap64 (x8 + 1)))) else (none)) else (none)) else (some (-1))
def slices_Index_string_string.f (k : Nat) (l0 : List ByteArray) (a1 : ByteArray) : Option (Int) := slices_Index_string_string.l0 k l0 a1 (l0.length : Int) 0
theorem slices_Index_string_string.mono_l : ∀ k, (∀ y0 y1 y2 y3, LeO (slices_Index_string_string.l0 k y0 y1 y2 y3) (slices_Index_string_string.l0 (k + 1) y0 y1 y2 y3))
  | 0 => fun _ _ _ _ r h => by simp [slices_Index_string_string.l0] at h
  | k + 1 => by
    have ih0 := slices_Index_string_string.mono_l k
    · intro y0 y1 y2 y3
      unfold slices_Index_string_string.l0
      repeat' first
      | (with_reducible exact ih0 _ _ _ _)
      | (with_reducible exact LeO.refl _)
      | (with_reducible exact LeO.none _)
      | (with_reducible refine LeO.ite ?_ ?_)
      | (with_reducible refine LeO.bind ?_ (fun _ => ?_))
      | exact ih0 _ _ _ _
      | exact LeO.none _
      | refine LeO.ite ?_ ?_
      | refine LeO.bind ?_ (fun _ => ?_)
theorem slices_Index_string_string.mono : ∀ a0 a1 k, LeO (slices_Index_string_string.f k a0 a1) (slices_Index_string_string.f (k + 1) a0 a1) := by
  intro a0 a1 k
  have ih0 := slices_Index_string_string.mono_l k
  unfold slices_Index_string_string.f
  repeat' first
      | (with_reducible exact ih0 _ _ _ _)
      | (with_reducible exact LeO.refl _)
      | (with_reducible exact LeO.none _)
      | (with_reducible refine LeO.ite ?_ ?_)
      | (with_reducible refine LeO.bind ?_ (fun _ => ?_))
      | exact ih0 _ _ _ _
      | exact LeO.none _
      | refine LeO.ite ?_ ?_
      | refine LeO.bind ?_ (fun _ => ?_)
set_option maxHeartbeats 8000000 in
set_option maxRecDepth 100000 in
theorem slices_Index_string_string.calls (k : Nat) (A0 : Option Addr) (c0 : Nat) (l0 : List ByteArray) (a1 : ByteArray) (r : Int) (w : World) (hr0 : Kd.C Kd.string w A0 l0.length l0) (hc0 : l0.length ≤ c0) (h : slices_Index_string_string.f k l0 a1 = some r) :
    Calls Tryd.prog 40 #[.slice A0 l0.length c0, .string a1] w fun e w' => e = .returned (.int .i64 r) ∧ Drawn0 w w' := by
  have HR0 := Aside0.mk hr0
  have HC0 := Aside0.mk hc0
  clear hr0 hc0
  have H : (slices_Index_string_string.l0 k l0 a1 (l0.length : Int) 0) = some r := h
  clear h
  have H' := Aside0.mk H
  clear H
  go_enter Tryd.func40, Tryd.ntmps40
  go_wp2
  go_loopg [8] k (fun kq v8 w' => ∃ (x8_1 : Int), v8 = .int .i64 x8_1 ∧ Aside0 (slices_Index_string_string.l0 kq l0 a1 (l0.length : Int) x8_1 = some r) ∧ Aside0 (kq ≤ k) ∧ Drawn0 w w')
  case atStart => exact ⟨(0), (by first | rfl | (simp; done) | (simp [*]; done)), H', ⟨Nat.le_refl _⟩, by repeat (first | exact Drawn0.refl _ | apply Drawn0.step)⟩
  case round =>
    clear H'
    try clear p2
    obtain ⟨x8_1, rfl, HA, HK1, ⟨m1, rfl⟩⟩ := hrel
    cases gk with
    | zero => exact absurd HA.out (by simp [slices_Index_string_string.l0])
    | succ k1 =>
      have H := HA.out
      clear HA
      simp only [slices_Index_string_string.l0] at H
      by_cases c3 : x8_1 < (l0.length : Int)
      · rw [if_pos c3] at H
        have c3b0 : decide (x8_1 < (l0.length : Int)) = true := decide_eq_true c3
        clear c3
        by_cases c4 : 0 ≤ x8_1
        · rw [if_pos c4] at H
          have c4b0 : decide (0 ≤ x8_1) = true := decide_eq_true c4
          clear c4
          by_cases c5 : x8_1 < (l0.length : Int)
          · rw [if_pos c5] at H
            have c5b0 : decide (x8_1 < (l0.length : Int)) = true := decide_eq_true c5
            clear c5
            by_cases c6 : a1.toList = (rdOf ByteArray.empty l0 x8_1).toList
            · rw [if_pos c6] at H
              have c6b0 : (a1.toList == (rdOf ByteArray.empty l0 x8_1).toList) = true := beq_iff_eq.mpr c6
              have c6b1 : (a1.toList != (rdOf ByteArray.empty l0 x8_1).toList) = false := bne_eq_false_iff_eq.mpr c6
              clear c6
              obtain rfl := Option.some.inj H
              have p160 : 0 ≤ (x8_1 : Int) := of_decide_eq_true (by first | (with_reducible assumption) | assumption)
              have q160 : x8_1 < (l0.length : Int) := of_decide_eq_true (by first | (with_reducible assumption) | assumption)
              obtain ⟨ad160, e160, hx160_0⟩ := Kd.at_string HR0.out x8_1 p160 q160
              cases e160
              replace p160 := eq_true p160
              replace q160 := eq_true q160
              go_wp2
              go_ret
              exact ⟨by first | rfl | (simp; done) | (simp [*]; done), by repeat (first | exact Drawn0.refl _ | apply Drawn0.step)⟩
            · rw [if_neg c6] at H
              have c6b0 : (a1.toList == (rdOf ByteArray.empty l0 x8_1).toList) = false := beq_eq_false_iff_ne.mpr c6
              have c6b1 : (a1.toList != (rdOf ByteArray.empty l0 x8_1).toList) = true := bne_iff_ne.mpr c6
              have H' := Aside0.mk H
              clear H
              have p160 : 0 ≤ (x8_1 : Int) := of_decide_eq_true (by first | (with_reducible assumption) | assumption)
              have q160 : x8_1 < (l0.length : Int) := of_decide_eq_true (by first | (with_reducible assumption) | assumption)
              obtain ⟨ad160, e160, hx160_0⟩ := Kd.at_string HR0.out x8_1 p160 q160
              cases e160
              replace p160 := eq_true p160
              replace q160 := eq_true q160
              go_wp2
              go_roundg k1
              case measure => have := HK1.out; omega
              case rel => exact ⟨(wrap64 (x8_1 + 1)), (by first | rfl | (simp; done) | (simp [*]; done)), H', ⟨by have := HK1.out; omega⟩, by repeat (first | exact Drawn0.refl _ | apply Drawn0.step)⟩
          · rw [if_neg c5] at H
            exact absurd H (by simp)
        · rw [if_neg c4] at H
          exact absurd H (by simp)
      · rw [if_neg c3] at H
        have c3b0 : decide (x8_1 < (l0.length : Int)) = false := decide_eq_false c3
        clear c3
        obtain rfl := Option.some.inj H
        go_wp2
        go_ret
        exact ⟨by first | rfl | (simp; done) | (simp [*]; done), by repeat (first | exact Drawn0.refl _ | apply Drawn0.step)⟩

/-! ### slices_Contains_string_string: function 30 -/
def slices_Contains_string_string.f (k : Nat) (l0 : List ByteArray) (a1 : ByteArray) : Option (Bool) := (slices_Index_string_string.f k l0 a1).bind fun t161 => (some (decide (t161 ≥ 0)))
theorem slices_Contains_string_string.mono : ∀ a0 a1 k, LeO (slices_Contains_string_string.f k a0 a1) (slices_Contains_string_string.f (k + 1) a0 a1) := by
  intro a0 a1 k
  unfold slices_Contains_string_string.f
  repeat' first
      | (with_reducible exact slices_Index_string_string.mono _ _ _)
      | (with_reducible exact LeO.refl _)
      | (with_reducible exact LeO.none _)
      | (with_reducible refine LeO.ite ?_ ?_)
      | (with_reducible refine LeO.bind ?_ (fun _ => ?_))
      | exact slices_Index_string_string.mono _ _ _
      | exact LeO.none _
      | refine LeO.ite ?_ ?_
      | refine LeO.bind ?_ (fun _ => ?_)
set_option maxHeartbeats 8000000 in
set_option maxRecDepth 100000 in
theorem slices_Contains_string_string.calls (k : Nat) (A0 : Option Addr) (c0 : Nat) (l0 : List ByteArray) (a1 : ByteArray) (r : Bool) (w : World) (hr0 : Kd.C Kd.string w A0 l0.length l0) (hc0 : l0.length ≤ c0) (h : slices_Contains_string_string.f k l0 a1 = some r) :
    Calls Tryd.prog 30 #[.slice A0 l0.length c0, .string a1] w fun e w' => e = .returned (.bool r) ∧ Drawn0 w w' := by
  have HR0 := Aside0.mk hr0
  have HC0 := Aside0.mk hc0
  clear hr0 hc0
  have H : ((slices_Index_string_string.f k l0 a1).bind fun t161 => (some (decide (t161 ≥ 0)))) = some r := h
  clear h
  replace H := Option.bind_eq_some_iff.mp H
  obtain ⟨t161, A30, H⟩ := H
  replace H : (some (decide (t161 ≥ 0))) = some r := H
  have A3 := Aside0.mk A30
  clear A30
  obtain rfl := Option.some.inj H
  go_enter Tryd.func30, Tryd.ntmps30
  go_wp2_with (first | ((with_reducible refine gate_callee (f := 40) rfl ?_); refine goesL_ (some 7) rfl rfl Tryd.func40 (by kernel_rfl) rfl #[.slice A0 l0.length c0, .string a1] rfl (by (try simp only [List.map_toArray, List.map_cons, List.map_nil]); first | done | rfl | (simp only [List.length_drop, List.length_take]; rfl)) ?_; (with_reducible refine (slices_Index_string_string.calls k _ _ l0 a1 t161 _ ?side1 ?side2 A3.out).mono ?_); (case side1 => repeat (first | exact HR0.out | (with_reducible refine Kd.C_alloc ?_ _) | (with_reducible refine Kd.C_drewN ?_ _) | (with_reducible refine Kd.C_drew ?_))); (case side2 => exact HC0.out); rintro e w' ⟨rfl, ⟨nd, rfl⟩⟩; refine ⟨_, rfl, ?_⟩))
  go_ret
  exact ⟨by first | rfl | (simp; done) | (simp [*]; done), by repeat (first | exact Drawn0.refl _ | apply Drawn0.step)⟩

/-! ### name_Fresh: function 15 -/
mutual
def name_Fresh.j0 : Nat → List ByteArray → ByteArray → Option (ByteArray × Bool)
  | 0, _, _ => none
  | k + 1, x1, x6 => name_Fresh.l0 k x1 x6 0
def name_Fresh.l0 : Nat → List ByteArray → ByteArray → Int → Option (ByteArray × Bool)
  | 0, _, _, _ => none
  | k + 1, x1, x6, x7 => name_Fresh.l1 k x1 x6 x7 (x6.size : Int) 0
def name_Fresh.l1 : Nat → List ByteArray → ByteArray → Int → Int → Int → Option (ByteArray × Bool)
  | 0, _, _, _, _, _ => none
  | k + 1, x1, x6, x7, x18, x19 => if x19 < x18 then (if 0 ≤ x19 then (if x19 ≤ (wrap64 (x19 + 1)) then (if (wrap64 (x19 + 1)) ≤ (x6.size : Int) then (if x7 > 0 then ((strconv_Itoa_29.f x7).bind fun t164 => (if (x6.extract (x19 : Int).toNat ((wrap64 (x19 + 1)) : Int).toNat).size + t164.size ≤ 9223372036854775807 then ((slices_Contains_string_string.f k x1 ((x6.extract (x19 : Int).toNat ((wrap64 (x19 + 1)) : Int).toNat) ++ t164)).bind fun t165 => (if t165 = true then (name_Fresh.l1 k x1 x6 x7 x18 (wrap64 (x19 + 1))) else (some ((x6.extract (x19 : Int).toNat ((wrap64 (x19 + 1)) : Int).toNat) ++ t164, true)))) else (none))) else ((slices_Contains_string_string.f k x1 (x6.extract (x19 : Int).toNat ((wrap64 (x19 + 1)) : Int).toNat)).bind fun t166 => (if t166 = true then (name_Fresh.l1 k x1 x6 x7 x18 (wrap64 (x19 + 1))) else (some (x6.extract (x19 : Int).toNat ((wrap64 (x19 + 1)) : Int).toNat, true))))) else (none)) else (none)) else (none)) else (name_Fresh.l0 k x1 x6 (wrap64 (x7 + 1)))
end
def name_Fresh.f (k : Nat) (a0 : Int) (l1 : List ByteArray) : Option (ByteArray × Bool) := (name_Space.f a0).bind fun t162 => (if t162.toList = ([] : List UInt8) then (some ((⟨#[]⟩ : ByteArray), false)) else ((name_May.f k a0 (⟨#[88]⟩ : ByteArray)).bind fun t163 => (if t163 = true then (name_Fresh.j0 k l1 (⟨#[88, 89, 90]⟩ : ByteArray)) else (name_Fresh.j0 k l1 (⟨#[120, 121, 122]⟩ : ByteArray)))))
theorem name_Fresh.mono_l : ∀ k, (∀ y0 y1, LeO (name_Fresh.j0 k y0 y1) (name_Fresh.j0 (k + 1) y0 y1)) ∧ (∀ y0 y1 y2, LeO (name_Fresh.l0 k y0 y1 y2) (name_Fresh.l0 (k + 1) y0 y1 y2)) ∧ (∀ y0 y1 y2 y3 y4, LeO (name_Fresh.l1 k y0 y1 y2 y3 y4) (name_Fresh.l1 (k + 1) y0 y1 y2 y3 y4))
  | 0 => ⟨fun _ _ r h => by simp [name_Fresh.j0] at h, fun _ _ _ r h => by simp [name_Fresh.l0] at h, fun _ _ _ _ _ r h => by simp [name_Fresh.l1] at h⟩
  | k + 1 => by
    obtain ⟨ih0, ih1, ih2⟩ := name_Fresh.mono_l k
    refine ⟨?_, ?_, ?_⟩
    · intro y0 y1
      unfold name_Fresh.j0
      repeat' first
      | (with_reducible exact ih0 _ _)
      | (with_reducible exact ih1 _ _ _)
      | (with_reducible exact ih2 _ _ _ _ _)
      | (with_reducible exact name_May.mono _ _ _)
      | (with_reducible exact slices_Contains_string_string.mono _ _ _)
      | (with_reducible exact LeO.refl _)
      | (with_reducible exact LeO.none _)
      | (with_reducible refine LeO.ite ?_ ?_)
      | (with_reducible refine LeO.bind ?_ (fun _ => ?_))
      | exact ih0 _ _
      | exact ih1 _ _ _
      | exact ih2 _ _ _ _ _
      | exact name_May.mono _ _ _
      | exact slices_Contains_string_string.mono _ _ _
      | exact LeO.none _
      | refine LeO.ite ?_ ?_
      | refine LeO.bind ?_ (fun _ => ?_)
    · intro y0 y1 y2
      unfold name_Fresh.l0
      repeat' first
      | (with_reducible exact ih0 _ _)
      | (with_reducible exact ih1 _ _ _)
      | (with_reducible exact ih2 _ _ _ _ _)
      | (with_reducible exact name_May.mono _ _ _)
      | (with_reducible exact slices_Contains_string_string.mono _ _ _)
      | (with_reducible exact LeO.refl _)
      | (with_reducible exact LeO.none _)
      | (with_reducible refine LeO.ite ?_ ?_)
      | (with_reducible refine LeO.bind ?_ (fun _ => ?_))
      | exact ih0 _ _
      | exact ih1 _ _ _
      | exact ih2 _ _ _ _ _
      | exact name_May.mono _ _ _
      | exact slices_Contains_string_string.mono _ _ _
      | exact LeO.none _
      | refine LeO.ite ?_ ?_
      | refine LeO.bind ?_ (fun _ => ?_)
    · intro y0 y1 y2 y3 y4
      unfold name_Fresh.l1
      repeat' first
      | (with_reducible exact ih0 _ _)
      | (with_reducible exact ih1 _ _ _)
      | (with_reducible exact ih2 _ _ _ _ _)
      | (with_reducible exact name_May.mono _ _ _)
      | (with_reducible exact slices_Contains_string_string.mono _ _ _)
      | (with_reducible exact LeO.refl _)
      | (with_reducible exact LeO.none _)
      | (with_reducible refine LeO.ite ?_ ?_)
      | (with_reducible refine LeO.bind ?_ (fun _ => ?_))
      | exact ih0 _ _
      | exact ih1 _ _ _
      | exact ih2 _ _ _ _ _
      | exact name_May.mono _ _ _
      | exact slices_Contains_string_string.mono _ _ _
      | exact LeO.none _
      | refine LeO.ite ?_ ?_
      | refine LeO.bind ?_ (fun _ => ?_)
theorem name_Fresh.mono : ∀ a0 a1 k, LeO (name_Fresh.f k a0 a1) (name_Fresh.f (k + 1) a0 a1) := by
  intro a0 a1 k
  obtain ⟨ih0, ih1, ih2⟩ := name_Fresh.mono_l k
  unfold name_Fresh.f
  repeat' first
      | (with_reducible exact ih0 _ _)
      | (with_reducible exact ih1 _ _ _)
      | (with_reducible exact ih2 _ _ _ _ _)
      | (with_reducible exact name_May.mono _ _ _)
      | (with_reducible exact slices_Contains_string_string.mono _ _ _)
      | (with_reducible exact LeO.refl _)
      | (with_reducible exact LeO.none _)
      | (with_reducible refine LeO.ite ?_ ?_)
      | (with_reducible refine LeO.bind ?_ (fun _ => ?_))
      | exact ih0 _ _
      | exact ih1 _ _ _
      | exact ih2 _ _ _ _ _
      | exact name_May.mono _ _ _
      | exact slices_Contains_string_string.mono _ _ _
      | exact LeO.none _
      | refine LeO.ite ?_ ?_
      | refine LeO.bind ?_ (fun _ => ?_)
set_option maxHeartbeats 8000000 in
set_option maxRecDepth 100000 in
theorem name_Fresh.calls (k : Nat) (a0 : Int) (A1 : Option Addr) (c1 : Nat) (l1 : List ByteArray) (r1 : ByteArray) (r2 : Bool) (w : World) (hr1 : Kd.C Kd.string w A1 l1.length l1) (hc1 : l1.length ≤ c1) (h : name_Fresh.f k a0 l1 = some (r1, r2)) (htab : Lib.TabIs Tryd.prog w "internal/strconv.uint64pow10" .u64 Lib.pow10Tab) :
    Calls Tryd.prog 15 #[.int .i64 a0, .slice A1 l1.length c1] w fun e w' => e = .returned (.tuple #[.string r1, .bool r2]) ∧ Below w.heap.size w w' := by
  have HTAB := Aside0.mk htab
  clear htab
  have HR1 := Aside0.mk hr1
  have HC1 := Aside0.mk hc1
  clear hr1 hc1
  have HB := Aside0.mk (Below.refl w.heap.size w)
  have H : ((name_Space.f a0).bind fun t162 => (if t162.toList = ([] : List UInt8) then (some ((⟨#[]⟩ : ByteArray), false)) else ((name_May.f k a0 (⟨#[88]⟩ : ByteArray)).bind fun t163 => (if t163 = true then (name_Fresh.j0 k l1 (⟨#[88, 89, 90]⟩ : ByteArray)) else (name_Fresh.j0 k l1 (⟨#[120, 121, 122]⟩ : ByteArray)))))) = some (r1, r2) := h
  clear h
  replace H := Option.bind_eq_some_iff.mp H
  obtain ⟨t162, A30, H⟩ := H
  replace H : (if t162.toList = ([] : List UInt8) then (some ((⟨#[]⟩ : ByteArray), false)) else ((name_May.f k a0 (⟨#[88]⟩ : ByteArray)).bind fun t163 => (if t163 = true then (name_Fresh.j0 k l1 (⟨#[88, 89, 90]⟩ : ByteArray)) else (name_Fresh.j0 k l1 (⟨#[120, 121, 122]⟩ : ByteArray))))) = some (r1, r2) := H
  have A3 := Aside0.mk A30
  clear A30
  by_cases c4 : t162.toList = ([] : List UInt8)
  · rw [if_pos c4] at H
    have c4b0 : (t162.toList == ([] : List UInt8)) = true := beq_iff_eq.mpr c4
    have c4b1 : (t162.toList != ([] : List UInt8)) = false := bne_eq_false_iff_eq.mpr c4
    clear c4
    simp only [Option.some.injEq, Prod.mk.injEq] at H
    obtain ⟨rfl, rfl⟩ := H
    go_enter Tryd.func15, Tryd.ntmps15
    go_wp2_with (first | ((with_reducible refine gate_callee (f := 27) rfl ?_); refine goesL_ (some 11) rfl rfl Tryd.func27 (by kernel_rfl) rfl #[.int .i64 a0] rfl (by (try simp only [List.map_toArray, List.map_cons, List.map_nil]); first | done | rfl | (simp only [List.length_drop, List.length_take]; rfl)) ?_; (with_reducible refine (name_Space.calls a0 t162 _ A3.out).mono ?_); rintro e w5 ⟨rfl, hb⟩; refine ⟨_, rfl, ?_⟩; have n0_ := Aside0.mk (below_step (by repeat (first | (with_reducible first | exact HB.out | apply below_alloc | apply pw_below_drewN | apply below_drew1) | exact HB.out)) hb); clear HB; have HB := n0_; clear n0_; (try clear hb); (try clear hb2); (try clear hk); (try clear hi)))
    go_ret2
    exact ⟨by first | rfl | (simp [errW_none, errW_some] <;> rfl) | (simp [*, errW_none, errW_some] <;> rfl), by repeat (first | (with_reducible first | exact HB.out | apply below_alloc | apply pw_below_drewN | apply below_drew1) | exact HB.out)⟩
  · rw [if_neg c4] at H
    have c4b0 : (t162.toList == ([] : List UInt8)) = false := beq_eq_false_iff_ne.mpr c4
    have c4b1 : (t162.toList != ([] : List UInt8)) = true := bne_iff_ne.mpr c4
    replace H := Option.bind_eq_some_iff.mp H
    obtain ⟨t163, A60, H⟩ := H
    replace H : (if t163 = true then (name_Fresh.j0 k l1 (⟨#[88, 89, 90]⟩ : ByteArray)) else (name_Fresh.j0 k l1 (⟨#[120, 121, 122]⟩ : ByteArray))) = some (r1, r2) := H
    have A6 := Aside0.mk A60
    clear A60
    have HC7 := Aside0.mk H
    clear H
    go_enter Tryd.func15, Tryd.ntmps15
    go_upto_if 14 with (first | ((with_reducible refine gate_callee (f := 27) rfl ?_); refine goesL_ (some 11) rfl rfl Tryd.func27 (by kernel_rfl) rfl #[.int .i64 a0] rfl (by (try simp only [List.map_toArray, List.map_cons, List.map_nil]); first | done | rfl | (simp only [List.length_drop, List.length_take]; rfl)) ?_; (with_reducible refine (name_Space.calls a0 t162 _ A3.out).mono ?_); rintro e w8 ⟨rfl, hb⟩; refine ⟨_, rfl, ?_⟩; have n0_ := Aside0.mk (below_step (by repeat (first | (with_reducible first | exact HB.out | apply below_alloc | apply pw_below_drewN | apply below_drew1) | exact HB.out)) hb); clear HB; have HB := n0_; clear n0_; (try clear hb); (try clear hb2); (try clear hk); (try clear hi)) | ((with_reducible refine gate_callee (f := 28) rfl ?_); refine goesL_ (some 14) rfl rfl Tryd.func28 (by kernel_rfl) rfl #[.int .i64 a0, .string (⟨#[88]⟩ : ByteArray)] rfl (by (try simp only [List.map_toArray, List.map_cons, List.map_nil]); first | done | rfl | (simp only [List.length_drop, List.length_take]; rfl)) ?_; (with_reducible refine (name_May.calls k a0 (⟨#[88]⟩ : ByteArray) t163 _ A6.out).mono ?_); rintro e w9 ⟨rfl, hb⟩; refine ⟨_, rfl, ?_⟩; have n0_ := Aside0.mk (below_step (by repeat (first | (with_reducible first | exact HB.out | apply below_alloc | apply pw_below_drewN | apply below_drew1) | exact HB.out)) hb); clear HB; have HB := n0_; clear n0_; (try clear hb); (try clear hb2); (try clear hk); (try clear hi)))
    (try simp only [Act.put, List.setIfInBounds_toArray, List.set_cons_zero, List.set_cons_succ])
    go_cut [6] (fun v6 wc => ∃ (kq : Nat) (x6_6 : ByteArray), v6 = .string x6_6 ∧ Aside0 (name_Fresh.j0 kq l1 x6_6 = some (r1, r2)) ∧ Aside0 (kq ≤ k) ∧ Aside0 (Below w.heap.size w wc))
    case first =>
      have H := HC7.out
      clear HC7
      by_cases c10 : t163 = true
      · subst c10
        have H1 : (name_Fresh.j0 k l1 (⟨#[88, 89, 90]⟩ : ByteArray)) = some (r1, r2) := by rw [if_pos rfl] at H; exact H
        clear H
        have H := H1
        clear H1
        have H' := Aside0.mk H
        clear H
        go_wp2
        go_meet
        case rel => exact ⟨_, ((⟨#[88, 89, 90]⟩ : ByteArray)), (by first | rfl | (simp; done) | (simp [*]; done)), H', ⟨by first | omega | exact Nat.le_refl _⟩, ⟨by repeat (first | (with_reducible first | exact HB.out | apply below_alloc | apply pw_below_drewN | apply below_drew1) | exact HB.out)⟩⟩
      · replace c10 := Bool.eq_false_iff.mpr c10
        subst c10
        have H1 : (name_Fresh.j0 k l1 (⟨#[120, 121, 122]⟩ : ByteArray)) = some (r1, r2) := by rw [if_neg (show ¬ (false = true) by decide)] at H; exact H
        clear H
        have H := H1
        clear H1
        have H' := Aside0.mk H
        clear H
        go_wp2
        go_meet
        case rel => exact ⟨_, ((⟨#[120, 121, 122]⟩ : ByteArray)), (by first | rfl | (simp; done) | (simp [*]; done)), H', ⟨by first | omega | exact Nat.le_refl _⟩, ⟨by repeat (first | (with_reducible first | exact HB.out | apply below_alloc | apply pw_below_drewN | apply below_drew1) | exact HB.out)⟩⟩
    case rest =>
      clear HC7
      try clear c1
      try clear c2
      try clear p2
      try clear c4
      try clear c4b0
      try clear c4b1
      try clear c10
      obtain ⟨kq, x6_6, rfl, HA, HJ6, HB⟩ := hcut
      cases kq with
      | zero => exact absurd HA.out (by simp [name_Fresh.j0])
      | succ kj6 =>
        have H := HA.out
        clear HA
        simp only [name_Fresh.j0] at H
        have H' := Aside0.mk H
        clear H
        go_wp2
        go_loopg [7] kj6 (fun kq v7 w' => ∃ (x7_2 : Int), v7 = .int .i64 x7_2 ∧ Aside0 (name_Fresh.l0 kq l1 x6_6 x7_2 = some (r1, r2)) ∧ Aside0 (kq ≤ kj6) ∧ Aside0 (Below w.heap.size w w'))
        case atStart => exact ⟨(0), (by first | rfl | (simp; done) | (simp [*]; done)), H', ⟨Nat.le_refl _⟩, ⟨by repeat (first | (with_reducible first | exact HB.out | apply below_alloc | apply pw_below_drewN | apply below_drew1) | exact HB.out)⟩⟩
        case round =>
          clear H'
          try clear c1
          try clear c2
          try clear p2
          try clear c4
          try clear c4b0
          try clear c4b1
          try clear c10
          try clear p2
          obtain ⟨x7_2, rfl, HA, HK2, HB⟩ := hrel
          cases gk with
          | zero => exact absurd HA.out (by simp [name_Fresh.l0])
          | succ k2 =>
            have H := HA.out
            clear HA
            simp only [name_Fresh.l0] at H
            have H' := Aside0.mk H
            clear H
            go_wp2
            go_loopg [19] k2 (fun kq v19 w' => ∃ (x19_3 : Int), v19 = .int .i64 x19_3 ∧ Aside0 (name_Fresh.l1 kq l1 x6_6 x7_2 (x6_6.size : Int) x19_3 = some (r1, r2)) ∧ Aside0 (kq ≤ k2) ∧ Aside0 (Below w.heap.size w w'))
            case atStart => exact ⟨(0), (by first | rfl | (simp; done) | (simp [*]; done)), H', ⟨Nat.le_refl _⟩, ⟨by repeat (first | (with_reducible first | exact HB.out | apply below_alloc | apply pw_below_drewN | apply below_drew1) | exact HB.out)⟩⟩
            case round =>
              clear H'
              try clear c1
              try clear c2
              try clear p2
              try clear c4
              try clear c4b0
              try clear c4b1
              try clear c10
              try clear p2
              obtain ⟨x19_3, rfl, HA, HK3, HB⟩ := hrel
              cases gk with
              | zero => exact absurd HA.out (by simp [name_Fresh.l1])
              | succ k3 =>
                have H := HA.out
                clear HA
                simp only [name_Fresh.l1] at H
                by_cases c11 : x19_3 < (x6_6.size : Int)
                · rw [if_pos c11] at H
                  have c11b0 : decide (x19_3 < (x6_6.size : Int)) = true := decide_eq_true c11
                  clear c11
                  by_cases c12 : 0 ≤ x19_3
                  · rw [if_pos c12] at H
                    have c12b0 := eq_true c12
                    have c12b1 : decide (0 ≤ x19_3) = true := decide_eq_true c12
                    clear c12
                    by_cases c13 : x19_3 ≤ (wrap64 (x19_3 + 1))
                    · rw [if_pos c13] at H
                      have c13b0 := eq_true c13
                      have c13b1 : decide (x19_3 ≤ (wrap64 (x19_3 + 1))) = true := decide_eq_true c13
                      by_cases c14 : (wrap64 (x19_3 + 1)) ≤ (x6_6.size : Int)
                      · rw [if_pos c14] at H
                        have c14b0 := eq_true c14
                        have c14b1 : decide ((wrap64 (x19_3 + 1)) ≤ (x6_6.size : Int)) = true := decide_eq_true c14
                        by_cases c15 : x7_2 > 0
                        · rw [if_pos c15] at H
                          have c15b0 : decide (0 < x7_2) = true := decide_eq_true c15
                          clear c15
                          replace H := Option.bind_eq_some_iff.mp H
                          obtain ⟨t164, A160, H⟩ := H
                          replace H : (if (x6_6.extract (x19_3 : Int).toNat ((wrap64 (x19_3 + 1)) : Int).toNat).size + t164.size ≤ 9223372036854775807 then ((slices_Contains_string_string.f k3 l1 ((x6_6.extract (x19_3 : Int).toNat ((wrap64 (x19_3 + 1)) : Int).toNat) ++ t164)).bind fun t165 => (if t165 = true then (name_Fresh.l1 k3 l1 x6_6 x7_2 (x6_6.size : Int) (wrap64 (x19_3 + 1))) else (some ((x6_6.extract (x19_3 : Int).toNat ((wrap64 (x19_3 + 1)) : Int).toNat) ++ t164, true)))) else (none)) = some (r1, r2) := H
                          have A16 := Aside0.mk A160
                          clear A160
                          by_cases c17 : (x6_6.extract (x19_3 : Int).toNat ((wrap64 (x19_3 + 1)) : Int).toNat).size + t164.size ≤ 9223372036854775807
                          · rw [if_pos c17] at H
                            have c17b0 := eq_true c17
                            have c17b1 : decide ((x6_6.extract (x19_3 : Int).toNat ((wrap64 (x19_3 + 1)) : Int).toNat).size + t164.size ≤ 9223372036854775807) = true := decide_eq_true c17
                            try have c17b2 : (9223372036854775807 < (x6_6.extract (x19_3 : Int).toNat ((wrap64 (x19_3 + 1)) : Int).toNat).size + t164.size) = False := eq_false (Nat.not_lt.2 c17)
                            try have c17e : (((wrap64 (x19_3 + 1)) : Int).toNat - (x19_3 : Int).toNat) + t164.size ≤ 9223372036854775807 := by (have h_ := c17; (try simp only [ByteArray.size_append, ByteArray.size_extract] at h_); omega)
                            try have c17f : (9223372036854775807 < (((wrap64 (x19_3 + 1)) : Int).toNat - (x19_3 : Int).toNat) + t164.size) = False := eq_false (Nat.not_lt.2 c17e)
                            replace H := Option.bind_eq_some_iff.mp H
                            obtain ⟨t165, A180, H⟩ := H
                            replace H : (if t165 = true then (name_Fresh.l1 k3 l1 x6_6 x7_2 (x6_6.size : Int) (wrap64 (x19_3 + 1))) else (some ((x6_6.extract (x19_3 : Int).toNat ((wrap64 (x19_3 + 1)) : Int).toNat) ++ t164, true))) = some (r1, r2) := H
                            have A18 := Aside0.mk A180
                            clear A180
                            by_cases c19 : t165 = true
                            · subst c19
                              have H1 : (name_Fresh.l1 k3 l1 x6_6 x7_2 (x6_6.size : Int) (wrap64 (x19_3 + 1))) = some (r1, r2) := by rw [if_pos rfl] at H; exact H
                              clear H
                              have H := H1
                              clear H1
                              have H' := Aside0.mk H
                              clear H
                              go_wp2_with (first | ((with_reducible refine gate_callee (f := 29) rfl ?_); refine goesL_ (some 31) rfl rfl Tryd.func29 (by kernel_rfl) rfl #[.int .i64 x7_2] rfl (by (try simp only [List.map_toArray, List.map_cons, List.map_nil]); first | done | rfl | (simp only [List.length_drop, List.length_take]; rfl)) ?_; (with_reducible refine (strconv_Itoa_29.calls x7_2 t164 _ A16.out ?htab_).mono ?_); (case htab_ => exact tab_below HTAB.out (by repeat (first | (with_reducible first | exact HB.out | apply below_alloc | apply pw_below_drewN | apply below_drew1) | exact HB.out))); rintro e w20 ⟨rfl, hb⟩; refine ⟨_, rfl, ?_⟩; have n0_ := Aside0.mk (below_step (by repeat (first | (with_reducible first | exact HB.out | apply below_alloc | apply pw_below_drewN | apply below_drew1) | exact HB.out)) hb); clear HB; have HB := n0_; clear n0_; (try clear hb); (try clear hb2); (try clear hk); (try clear hi)) | ((with_reducible refine gate_callee (f := 30) rfl ?_); refine goesL_ (some 35) rfl rfl Tryd.func30 (by kernel_rfl) rfl #[.slice A1 l1.length c1, .string ((x6_6.extract (x19_3 : Int).toNat ((wrap64 (x19_3 + 1)) : Int).toNat) ++ t164)] rfl (by (try simp only [List.map_toArray, List.map_cons, List.map_nil]); first | done | rfl | (simp only [List.length_drop, List.length_take]; rfl)) ?_; (with_reducible refine (slices_Contains_string_string.calls k3 _ _ l1 ((x6_6.extract (x19_3 : Int).toNat ((wrap64 (x19_3 + 1)) : Int).toNat) ++ t164) true _ ?side1 ?side2 A18.out).mono ?_); (case side1 => repeat (first | exact (Kd.C_below HR1.out HB.out) | (with_reducible refine Kd.C_alloc ?_ _) | (with_reducible refine Kd.C_drewN ?_ _) | (with_reducible refine Kd.C_drew ?_))); (case side2 => exact HC1.out); rintro e w' ⟨rfl, ⟨nd, rfl⟩⟩; refine ⟨_, rfl, ?_⟩))
                              go_roundg k3
                              case measure => have := HJ6.out; have := HK2.out; have := HK3.out; omega
                              case rel => exact ⟨(wrap64 (x19_3 + 1)), (by first | rfl | (simp; done) | (simp [*]; done)), H', ⟨by have := HJ6.out; have := HK2.out; have := HK3.out; omega⟩, ⟨by repeat (first | (with_reducible first | exact HB.out | apply below_alloc | apply pw_below_drewN | apply below_drew1) | exact HB.out)⟩⟩
                            · replace c19 := Bool.eq_false_iff.mpr c19
                              subst c19
                              have H1 : (some ((x6_6.extract (x19_3 : Int).toNat ((wrap64 (x19_3 + 1)) : Int).toNat) ++ t164, true)) = some (r1, r2) := by rw [if_neg (show ¬ (false = true) by decide)] at H; exact H
                              clear H
                              have H := H1
                              clear H1
                              simp only [Option.some.injEq, Prod.mk.injEq] at H
                              obtain ⟨rfl, rfl⟩ := H
                              go_wp2_with (first | ((with_reducible refine gate_callee (f := 29) rfl ?_); refine goesL_ (some 31) rfl rfl Tryd.func29 (by kernel_rfl) rfl #[.int .i64 x7_2] rfl (by (try simp only [List.map_toArray, List.map_cons, List.map_nil]); first | done | rfl | (simp only [List.length_drop, List.length_take]; rfl)) ?_; (with_reducible refine (strconv_Itoa_29.calls x7_2 t164 _ A16.out ?htab_).mono ?_); (case htab_ => exact tab_below HTAB.out (by repeat (first | (with_reducible first | exact HB.out | apply below_alloc | apply pw_below_drewN | apply below_drew1) | exact HB.out))); rintro e w21 ⟨rfl, hb⟩; refine ⟨_, rfl, ?_⟩; have n0_ := Aside0.mk (below_step (by repeat (first | (with_reducible first | exact HB.out | apply below_alloc | apply pw_below_drewN | apply below_drew1) | exact HB.out)) hb); clear HB; have HB := n0_; clear n0_; (try clear hb); (try clear hb2); (try clear hk); (try clear hi)) | ((with_reducible refine gate_callee (f := 30) rfl ?_); refine goesL_ (some 35) rfl rfl Tryd.func30 (by kernel_rfl) rfl #[.slice A1 l1.length c1, .string ((x6_6.extract (x19_3 : Int).toNat ((wrap64 (x19_3 + 1)) : Int).toNat) ++ t164)] rfl (by (try simp only [List.map_toArray, List.map_cons, List.map_nil]); first | done | rfl | (simp only [List.length_drop, List.length_take]; rfl)) ?_; (with_reducible refine (slices_Contains_string_string.calls k3 _ _ l1 ((x6_6.extract (x19_3 : Int).toNat ((wrap64 (x19_3 + 1)) : Int).toNat) ++ t164) false _ ?side1 ?side2 A18.out).mono ?_); (case side1 => repeat (first | exact (Kd.C_below HR1.out HB.out) | (with_reducible refine Kd.C_alloc ?_ _) | (with_reducible refine Kd.C_drewN ?_ _) | (with_reducible refine Kd.C_drew ?_))); (case side2 => exact HC1.out); rintro e w' ⟨rfl, ⟨nd, rfl⟩⟩; refine ⟨_, rfl, ?_⟩))
                              go_ret2
                              exact ⟨by first | rfl | (simp [errW_none, errW_some] <;> rfl) | (simp [*, errW_none, errW_some] <;> rfl), by repeat (first | (with_reducible first | exact HB.out | apply below_alloc | apply pw_below_drewN | apply below_drew1) | exact HB.out)⟩
                          · rw [if_neg c17] at H
                            exact absurd H (by simp)
                        · rw [if_neg c15] at H
                          have c15b0 : decide (0 < x7_2) = false := decide_eq_false c15
                          clear c15
                          replace H := Option.bind_eq_some_iff.mp H
                          obtain ⟨t166, A220, H⟩ := H
                          replace H : (if t166 = true then (name_Fresh.l1 k3 l1 x6_6 x7_2 (x6_6.size : Int) (wrap64 (x19_3 + 1))) else (some (x6_6.extract (x19_3 : Int).toNat ((wrap64 (x19_3 + 1)) : Int).toNat, true))) = some (r1, r2) := H
                          have A22 := Aside0.mk A220
                          clear A220
                          by_cases c23 : t166 = true
                          · subst c23
                            have H1 : (name_Fresh.l1 k3 l1 x6_6 x7_2 (x6_6.size : Int) (wrap64 (x19_3 + 1))) = some (r1, r2) := by rw [if_pos rfl] at H; exact H
                            clear H
                            have H := H1
                            clear H1
                            have H' := Aside0.mk H
                            clear H
                            go_wp2_with (first | ((with_reducible refine gate_callee (f := 30) rfl ?_); refine goesL_ (some 35) rfl rfl Tryd.func30 (by kernel_rfl) rfl #[.slice A1 l1.length c1, .string (x6_6.extract (x19_3 : Int).toNat ((wrap64 (x19_3 + 1)) : Int).toNat)] rfl (by (try simp only [List.map_toArray, List.map_cons, List.map_nil]); first | done | rfl | (simp only [List.length_drop, List.length_take]; rfl)) ?_; (with_reducible refine (slices_Contains_string_string.calls k3 _ _ l1 (x6_6.extract (x19_3 : Int).toNat ((wrap64 (x19_3 + 1)) : Int).toNat) true _ ?side1 ?side2 A22.out).mono ?_); (case side1 => repeat (first | exact (Kd.C_below HR1.out HB.out) | (with_reducible refine Kd.C_alloc ?_ _) | (with_reducible refine Kd.C_drewN ?_ _) | (with_reducible refine Kd.C_drew ?_))); (case side2 => exact HC1.out); rintro e w' ⟨rfl, ⟨nd, rfl⟩⟩; refine ⟨_, rfl, ?_⟩))
                            go_roundg k3
                            case measure => have := HJ6.out; have := HK2.out; have := HK3.out; omega
                            case rel => exact ⟨(wrap64 (x19_3 + 1)), (by first | rfl | (simp; done) | (simp [*]; done)), H', ⟨by have := HJ6.out; have := HK2.out; have := HK3.out; omega⟩, ⟨by repeat (first | (with_reducible first | exact HB.out | apply below_alloc | apply pw_below_drewN | apply below_drew1) | exact HB.out)⟩⟩
                          · replace c23 := Bool.eq_false_iff.mpr c23
                            subst c23
                            have H1 : (some (x6_6.extract (x19_3 : Int).toNat ((wrap64 (x19_3 + 1)) : Int).toNat, true)) = some (r1, r2) := by rw [if_neg (show ¬ (false = true) by decide)] at H; exact H
                            clear H
                            have H := H1
                            clear H1
                            simp only [Option.some.injEq, Prod.mk.injEq] at H
                            obtain ⟨rfl, rfl⟩ := H
                            go_wp2_with (first | ((with_reducible refine gate_callee (f := 30) rfl ?_); refine goesL_ (some 35) rfl rfl Tryd.func30 (by kernel_rfl) rfl #[.slice A1 l1.length c1, .string (x6_6.extract (x19_3 : Int).toNat ((wrap64 (x19_3 + 1)) : Int).toNat)] rfl (by (try simp only [List.map_toArray, List.map_cons, List.map_nil]); first | done | rfl | (simp only [List.length_drop, List.length_take]; rfl)) ?_; (with_reducible refine (slices_Contains_string_string.calls k3 _ _ l1 (x6_6.extract (x19_3 : Int).toNat ((wrap64 (x19_3 + 1)) : Int).toNat) false _ ?side1 ?side2 A22.out).mono ?_); (case side1 => repeat (first | exact (Kd.C_below HR1.out HB.out) | (with_reducible refine Kd.C_alloc ?_ _) | (with_reducible refine Kd.C_drewN ?_ _) | (with_reducible refine Kd.C_drew ?_))); (case side2 => exact HC1.out); rintro e w' ⟨rfl, ⟨nd, rfl⟩⟩; refine ⟨_, rfl, ?_⟩))
                            go_ret2
                            exact ⟨by first | rfl | (simp [errW_none, errW_some] <;> rfl) | (simp [*, errW_none, errW_some] <;> rfl), by repeat (first | (with_reducible first | exact HB.out | apply below_alloc | apply pw_below_drewN | apply below_drew1) | exact HB.out)⟩
                      · rw [if_neg c14] at H
                        exact absurd H (by simp)
                    · rw [if_neg c13] at H
                      exact absurd H (by simp)
                  · rw [if_neg c12] at H
                    exact absurd H (by simp)
                · rw [if_neg c11] at H
                  have c11b0 : decide (x19_3 < (x6_6.size : Int)) = false := decide_eq_false c11
                  clear c11
                  have H' := Aside0.mk H
                  clear H
                  go_wp2
                  go_roundg k3
                  case measure => have := HJ6.out; have := HK2.out; have := HK3.out; omega
                  case rel => exact ⟨(wrap64 (x7_2 + 1)), (by first | rfl | (simp; done) | (simp [*]; done)), H', ⟨by have := HJ6.out; have := HK2.out; have := HK3.out; omega⟩, ⟨by repeat (first | (with_reducible first | exact HB.out | apply below_alloc | apply pw_below_drewN | apply below_drew1) | exact HB.out)⟩⟩

/-! ### spell_Fresh: function 7 -/
def frLoop (k : Nat) (like c : ByteArray) (P : List (List UInt8 × S56)) : Nat → ByteArray → Option ByteArray
  | 0, _ => none
  | g + 1, s => if s.size ≤ 1000000 then (name_Alike.f k s like).bind fun t => if t = true then (if (Gp P s.data.toList).length = 0 then some s else frLoop k like c P g (s ++ c)) else frLoop k like c P g (s ++ c) else none
def spell_Fresh.f (k : Nat) (a0 : ByteArray) (l1 : List S29) : Option (ByteArray × Bool) := (name_Kind.f k a0).bind fun kd =>
  if kd = 6 then (spell_Taken.f k l1).bind fun T => name_Fresh.f k 1 T else if kd = 7 then (spell_Taken.f k l1).bind fun T => name_Fresh.f k 4 T else
  if kd = 9 then (spell_spelled.f k l1).bind fun P => if 1 ≤ a0.size then (frLoop k a0 (a0.extract 0 1) P k (a0.extract 0 1 ++ a0.extract 0 1)).bind fun s => some (s, true) else none else some (⟨#[]⟩, false)
theorem frLoop_mono (like c : ByteArray) (P : List (List UInt8 × S56)) (k k' : Nat) (hk : ∀ s, LeO (name_Alike.f k s like) (name_Alike.f k' s like)) : ∀ g g' s, g ≤ g' → LeO (frLoop k like c P g s) (frLoop k' like c P g' s)
  | 0, _, _, _ => LeO.none _
  | g + 1, 0, _, h => by omega
  | g + 1, g' + 1, s, h => LeO.ite (LeO.bind (hk s) fun _ => LeO.ite (LeO.ite (LeO.refl _) (frLoop_mono like c P k k' hk g g' _ (by omega))) (frLoop_mono like c P k k' hk g g' _ (by omega))) (LeO.refl _)
theorem spell_Fresh.mono : ∀ a0 a1 k, LeO (spell_Fresh.f k a0 a1) (spell_Fresh.f (k + 1) a0 a1) := by
  intro a0 a1 k
  unfold spell_Fresh.f
  refine LeO.bind (name_Kind.mono a0 k) fun _ => LeO.ite ?_ (LeO.ite ?_ (LeO.ite ?_ (LeO.refl _)))
  · exact LeO.bind (spell_Taken.mono a1 k) fun _ => name_Fresh.mono _ _ k
  · exact LeO.bind (spell_Taken.mono a1 k) fun _ => name_Fresh.mono _ _ k
  · exact LeO.bind (spell_spelled.mono a1 k) fun _ => LeO.ite (LeO.bind (frLoop_mono _ _ _ k (k + 1) (fun s => name_Alike.mono _ _ k) k (k + 1) _ (by omega)) fun _ => LeO.refl _) (LeO.refl _)
set_option maxHeartbeats 2000000 in
theorem clone_calls (s : ByteArray) (w : World) (hs : s.size ≤ 1000000) : Calls Tryd.prog 17 #[.string s] w fun e w' => e = .returned (.string s) ∧ Below w.heap.size w w' := by
  have HC := Aside0.mk (Tryd.stringslite_Clone s w (by omega))
  clear hs
  go_enter Tryd.func17, Tryd.ntmps17
  go_wp2_with (go_at_call 32; with_reducible refine HC.out.mono ?_; rintro e w2 ⟨rfl, hb⟩; have HB := Aside0.mk hb; clear hb)
  go_ret
  exact ⟨rfl, HB.out⟩
set_option maxHeartbeats 4000000 in
set_option maxRecDepth 100000 in
theorem spell_Fresh.calls (k : Nat) (a0 : ByteArray) (A1 : Option Addr) (c1 : Nat) (l1 : List S29) (r1 : ByteArray) (r2 : Bool) (w : World) (hr1 : Kd.C k29 w A1 l1.length l1) (hc1 : l1.length ≤ c1) (h : spell_Fresh.f k a0 l1 = some (r1, r2)) (htab : Lib.TabIs Tryd.prog w "internal/strconv.uint64pow10" .u64 Lib.pow10Tab) :
    Calls Tryd.prog 7 #[.string a0, .slice A1 l1.length c1] w fun e w' => e = .returned (.tuple #[.string r1, .bool r2]) ∧ Below w.heap.size w w' := by
  unfold spell_Fresh.f at h
  obtain ⟨kd, hkd, h⟩ := Option.bind_eq_some_iff.1 h
  have HTAB := Aside0.mk htab
  clear htab
  have HK := Aside0.mk (fun (W : World) => name_Kind.calls k a0 kd W hkd)
  have HT := Aside0.mk (fun (W : World) (hb : Below w.heap.size w W) (T : List ByteArray) (hT : spell_Taken.f k l1 = some T) => spell_Taken.calls k A1 c1 l1 T W (Kd.C_below hr1 hb) hc1 hT)
  have HS := Aside0.mk (fun (W : World) (hb : Below w.heap.size w W) (P : List (List UInt8 × S56)) (hP : spell_spelled.f k l1 = some P) => spell_spelled.calls k A1 c1 l1 P W (Kd.C_below hr1 hb) hc1 hP)
  obtain ⟨m, hm⟩ : ∃ m, l1.length = m := ⟨_, rfl⟩
  rw [hm] at HT HS ⊢
  clear hr1 hc1 hm hkd
  have HB := Aside0.mk (Below.refl w.heap.size w)
  by_cases h6 : kd = 6
  · subst h6
    rw [if_pos rfl] at h
    obtain ⟨T, hT, h⟩ := Option.bind_eq_some_iff.1 h
    have HTT := Aside0.mk (fun (W : World) (hb : Below w.heap.size w W) => HT.out W hb T hT)
    have HF := Aside0.mk (fun (A : Option Addr) (c : Nat) (W : World) (hr : Kd.C Kd.string W A T.length T) (hc : T.length ≤ c) (hb : Below w.heap.size w W) => name_Fresh.calls k 1 A c T r1 r2 W hr hc h (tab_below HTAB.out hb))
    obtain ⟨nt, hnt⟩ : ∃ nt, T.length = nt := ⟨_, rfl⟩
    have HNT := Lib.hid hnt
    rw [hnt] at HF
    clear h hT HT HS hnt
    go_enter Tryd.func7, Tryd.ntmps7
    go_wp2_with (first | (go_at_call 14; with_reducible refine (HK.out _).mono ?_; rintro e w2 ⟨rfl, hb⟩; have HB_ := Aside0.mk (below_step HB.out hb); clear HB hb; have HB := HB_; clear HB_) | (go_at_call 9; with_reducible refine (HTT.out _ HB.out).mono ?_; rintro e w3 ⟨v, rfl, hR, hb⟩; have HB_ := Aside0.mk (below_step HB.out hb); clear HB hb; have HB := HB_; clear HB_; obtain ⟨AT, cT, eT⟩ := Kd.R_slice hR; rw [HNT.out] at eT; subst eT; have HR := Aside0.mk hR; clear hR) | (go_at_call 15; with_reducible refine (HF.out AT cT _ ?q1 ?q2 HB.out).mono ?_; (case q1 => have := (Kd.R_reads' HR.out).2.2; rwa [HNT.out] at this); (case q2 => exact (Kd.R_reads' HR.out).2.1); rintro e w4 ⟨rfl, hb⟩; have HB_ := Aside0.mk (below_step HB.out hb); clear HB hb; have HB := HB_; clear HB_))
    go_ret2
    exact ⟨rfl, HB.out⟩
  · by_cases h7 : kd = 7
    · subst h7
      rw [if_neg (by decide), if_pos rfl] at h
      obtain ⟨T, hT, h⟩ := Option.bind_eq_some_iff.1 h
      have HTT := Aside0.mk (fun (W : World) (hb : Below w.heap.size w W) => HT.out W hb T hT)
      have HF := Aside0.mk (fun (A : Option Addr) (c : Nat) (W : World) (hr : Kd.C Kd.string W A T.length T) (hc : T.length ≤ c) (hb : Below w.heap.size w W) => name_Fresh.calls k 4 A c T r1 r2 W hr hc h (tab_below HTAB.out hb))
      obtain ⟨nt, hnt⟩ : ∃ nt, T.length = nt := ⟨_, rfl⟩
      have HNT := Lib.hid hnt
      rw [hnt] at HF
      clear h hT HT HS hnt
      go_enter Tryd.func7, Tryd.ntmps7
      go_wp2_with (first | (go_at_call 14; with_reducible refine (HK.out _).mono ?_; rintro e w2 ⟨rfl, hb⟩; have HB_ := Aside0.mk (below_step HB.out hb); clear HB hb; have HB := HB_; clear HB_) | (go_at_call 9; with_reducible refine (HTT.out _ HB.out).mono ?_; rintro e w3 ⟨v, rfl, hR, hb⟩; have HB_ := Aside0.mk (below_step HB.out hb); clear HB hb; have HB := HB_; clear HB_; obtain ⟨AT, cT, eT⟩ := Kd.R_slice hR; rw [HNT.out] at eT; subst eT; have HR := Aside0.mk hR; clear hR) | (go_at_call 15; with_reducible refine (HF.out AT cT _ ?q1 ?q2 HB.out).mono ?_; (case q1 => have := (Kd.R_reads' HR.out).2.2; rwa [HNT.out] at this); (case q2 => exact (Kd.R_reads' HR.out).2.1); rintro e w4 ⟨rfl, hb⟩; have HB_ := Aside0.mk (below_step HB.out hb); clear HB hb; have HB := HB_; clear HB_))
      go_ret2
      exact ⟨rfl, HB.out⟩
    · by_cases h9 : kd = 9
      · subst h9
        rw [if_neg (by decide), if_neg (by decide), if_pos rfl] at h
        obtain ⟨P, hP, h⟩ := Option.bind_eq_some_iff.1 h
        by_cases h1 : 1 ≤ a0.size
        case neg => rw [if_neg h1] at h; cases h
        rw [if_pos h1] at h
        obtain ⟨s, hs, h⟩ := Option.bind_eq_some_iff.1 h
        simp only [Option.some.injEq, Prod.mk.injEq] at h
        obtain ⟨rfl, rfl⟩ := h
        have HSS := Aside0.mk (fun (W : World) (hb : Below w.heap.size w W) => HS.out W hb P hP)
        have h1z : (1 : Int) ≤ (a0.size : Int) := by omega
        have hz1 : decide ((1 : Int) ≤ (a0.size : Int)) = true := decide_eq_true h1z
        obtain ⟨c, hc⟩ : ∃ c, a0.extract 0 1 = c := ⟨_, rfl⟩
        have hc1 : c.size = 1 := by
          rw [← hc, ByteArray.size_extract]
          omega
        rw [hc] at hs
        have hm0 : ¬ 9223372036854775807 < c.size + c.size := by omega
        have HL := Lib.hid hs
        have HC1 := Lib.hid hc1
        have HC := hc
        clear hs hP HT HS hc1 h1
        go_enter Tryd.func7, Tryd.ntmps7
        go_wp2_with (first | (go_at_call 14; with_reducible refine (HK.out _).mono ?_; rintro e w2 ⟨rfl, hb⟩; have HB_ := Aside0.mk (below_step HB.out hb); clear HB hb; have HB := HB_; clear HB_) | (go_at_call 16; with_reducible refine (HSS.out _ HB.out).mono ?_; rintro e w3 ⟨b, n, D, V, rfl, hn, hG⟩; have HG := Aside0.mk hG; have HB_ := Aside0.mk (below_step HB.out hG.below); clear HB hG hn; have HB := HB_; clear HB_))
        refine wp_region_held_drew (S := (fun _ => True)) (by kernel_rfl) trivial (fun hHeld => ?_)
        refine wpAnyH_take (i := 0) (oi := ?o0) (v := ?v0) ?hi0 (by kernel_rfl) (by kernel_rfl) (by kernel_rfl) ?hQ0 ?hy0 (by assumption) ?rest0
        case hi0 => simp only [List.getElem?_toArray, List.getElem?_cons_succ, List.getElem?_cons_zero] <;> rfl
        case hQ0 => exact fun _ _ _ h => h
        case hy0 => exact Or.inl ⟨by kernel_rfl, by intro w hSw; (try dsimp only at hSw); go_simp; first | done | with_reducible rfl⟩
        try simp only [Act.put, List.setIfInBounds_toArray, List.set_cons_zero, List.set_cons_succ]
        refine wpAnyH_take (i := 1) (oi := ?o1) (v := ?v1) ?hi1 (by kernel_rfl) (by kernel_rfl) (by kernel_rfl) ?hQ1 ?hy1 (by assumption) ?rest1
        case hi1 => simp only [List.getElem?_toArray, List.getElem?_cons_succ, List.getElem?_cons_zero] <;> rfl
        case hQ1 => exact fun _ _ _ h => h
        case hy1 => exact Or.inl ⟨by kernel_rfl, by intro w hSw; (try dsimp only at hSw); go_simp; first | done | with_reducible rfl⟩
        try simp only [Act.put, List.setIfInBounds_toArray, List.set_cons_zero, List.set_cons_succ]
        refine wpAnyH_take (i := 2) (oi := ?o2) (v := ?v2) ?hi2 (by kernel_rfl) (by kernel_rfl) (by kernel_rfl) ?hQ2 ?hy2 (by assumption) ?rest2
        case hi2 => simp only [List.getElem?_toArray, List.getElem?_cons_succ, List.getElem?_cons_zero] <;> rfl
        case hQ2 => exact fun _ _ _ h => h
        case hy2 => exact Or.inl ⟨by kernel_rfl, by intro w hSw; (try dsimp only at hSw); go_simp; first | done | with_reducible rfl⟩
        try simp only [Act.put, List.setIfInBounds_toArray, List.set_cons_zero, List.set_cons_succ]
        refine wpAnyH_take (i := 3) (oi := ?o3) (v := ?v3) ?hi3 (by kernel_rfl) (by kernel_rfl) (by kernel_rfl) ?hQ3 ?hy3 (by assumption) ?rest3
        case hi3 => simp only [List.getElem?_toArray, List.getElem?_cons_succ, List.getElem?_cons_zero] <;> rfl
        case hQ3 => exact fun _ _ _ h => h
        case hy3 => exact Or.inl ⟨by kernel_rfl, by intro w hSw; (try dsimp only at hSw); go_simp; first | done | with_reducible rfl⟩
        try simp only [Act.put, List.setIfInBounds_toArray, List.set_cons_zero, List.set_cons_succ]
        refine wpAnyH_take (i := 4) (oi := ?o4) (v := ?v4) ?hi4 (by kernel_rfl) (by kernel_rfl) (by kernel_rfl) ?hQ4 ?hy4 (by assumption) ?rest4
        case hi4 => simp only [List.getElem?_toArray, List.getElem?_cons_succ, List.getElem?_cons_zero] <;> rfl
        case hQ4 => exact fun _ _ _ h => h
        case hy4 => exact Or.inl ⟨by kernel_rfl, by intro w hSw; (try dsimp only at hSw); go_simp; first | done | with_reducible rfl⟩
        try simp only [Act.put, List.setIfInBounds_toArray, List.set_cons_zero, List.set_cons_succ]
        refine wpAnyH_take (i := 5) (oi := ?o5) (v := ?v5) ?hi5 (by kernel_rfl) (by kernel_rfl) (by kernel_rfl) ?hQ5 ?hy5 (by assumption) ?rest5
        case hi5 => simp only [List.getElem?_toArray, List.getElem?_cons_succ, List.getElem?_cons_zero] <;> rfl
        case hQ5 => exact fun _ _ _ h => h
        case hy5 => exact Or.inl ⟨by kernel_rfl, by intro w hSw; (try dsimp only at hSw); go_simp; first | done | with_reducible rfl⟩
        try simp only [Act.put, List.setIfInBounds_toArray, List.set_cons_zero, List.set_cons_succ]
        refine wpAnyH_done (by kernel_rfl) ?_ _
        have HG_ := Aside0.mk (HG.out.step (below_drew (Below.refl w3.heap.size w3)))
        have HB_ := Aside0.mk (below_drew1 HB.out)
        clear HG HB hHeld
        have HG := HG_
        have HB := HB_
        clear HG_ HB_
        go_wp2_with fail
        generalize w3.drew = w4 at *
        go_loopg [7] k (fun gg v7 wr => ∃ y : ByteArray, v7 = .string y ∧ Hid (frLoop k a0 c P gg y = some s) ∧ Aside0 (GMp w2 wr b n D V (Gp P)) ∧ Aside0 (Below w.heap.size w wr))
        case atStart => exact ⟨_, rfl, HL, HG, HB⟩
        case round =>
          clear HL HG HB
          obtain ⟨y, rfl, HL, HG, HB⟩ := hrel
          cases gk with
          | zero => exact absurd HL.out (by simp [frLoop])
          | succ g =>
            have hl := HL.out
            unfold frLoop at hl
            by_cases hys : y.size ≤ 1000000
            case neg => rw [if_neg hys] at hl; cases hl
            rw [if_pos hys] at hl
            obtain ⟨t, ht, hl⟩ := Option.bind_eq_some_iff.1 hl
            have HAL := Aside0.mk (fun (W : World) => name_Alike.calls k y a0 t W ht)
            have hks : y.size ≤ maxLen := by unfold maxLen; omega
            have hm1 : ¬ 9223372036854775807 < y.size + c.size := by rw [HC1.out]; omega
            clear ht HL
            cases t with
            | true =>
              rw [if_pos rfl] at hl
              obtain ⟨nV, hnV⟩ : ∃ nV, (Gp P y.data.toList).length = nV := ⟨_, rfl⟩
              rw [hnV] at hl
              have HNV := Lib.hid hnV
              clear hnV
              by_cases h0 : nV = 0
              · rw [if_pos h0] at hl
                obtain rfl := Option.some.inj hl
                subst h0
                have HCL := Aside0.mk (fun (W : World) => clone_calls y W hys)
                clear hl
                go_wp2_with (first | (go_at_call 8; with_reducible refine (HAL.out _).mono ?_; rintro e w9 ⟨rfl, hb⟩; have HG_ := Aside0.mk (HG.out.step hb); have HB_ := Aside0.mk (below_step HB.out hb); clear HG HB hb; have HG := HG_; have HB := HB_; clear HG_ HB_; have hlk := HG.out.look y hks; have hrow := HG.out.row y.data.toList; obtain ⟨AV, cV, eV⟩ := Kd.R_slice hrow; rw [HNV.out] at eV; rw [eV] at hlk; clear hrow eV) | (go_at_call 17; with_reducible refine (HCL.out _).mono ?_; rintro e w10 ⟨rfl, hb⟩; have HB_ := Aside0.mk (below_step HB.out hb); clear HB hb; have HB := HB_; clear HB_))
                go_ret2
                exact ⟨rfl, HB.out⟩
              · rw [if_neg h0] at hl
                have hn1 : (0 : Int) < (nV : Int) := by omega
                have hn2 : decide ((0 : Int) < (nV : Int)) = true := decide_eq_true hn1
                have hn3 : decide ((nV : Int) > 0) = true := decide_eq_true hn1
                have HL := Lib.hid hl
                clear hl
                go_wp2_with (go_at_call 8; with_reducible refine (HAL.out _).mono ?_; rintro e w9 ⟨rfl, hb⟩; have HG_ := Aside0.mk (HG.out.step hb); have HB_ := Aside0.mk (below_step HB.out hb); clear HG HB hb; have HG := HG_; have HB := HB_; clear HG_ HB_; have hlk := HG.out.look y hks; have hrow := HG.out.row y.data.toList; obtain ⟨AV, cV, eV⟩ := Kd.R_slice hrow; rw [HNV.out] at eV; rw [eV] at hlk; clear hrow eV)
                go_roundg g
                case measure => omega
                case rel => exact ⟨_, rfl, HL, HG, HB⟩
            | false =>
              rw [if_neg Bool.false_ne_true] at hl
              have HL := Lib.hid hl
              clear hl
              go_wp2_with (go_at_call 8; with_reducible refine (HAL.out _).mono ?_; rintro e w9 ⟨rfl, hb⟩; have HG_ := Aside0.mk (HG.out.step hb); have HB_ := Aside0.mk (below_step HB.out hb); clear HG HB hb; have HG := HG_; have HB := HB_; clear HG_ HB_)
              go_roundg g
              case measure => omega
              case rel => exact ⟨_, rfl, HL, HG, HB⟩
      · rw [if_neg h6, if_neg h7, if_neg h9] at h
        simp only [Option.some.injEq, Prod.mk.injEq] at h
        obtain ⟨rfl, rfl⟩ := h
        have b6 : (kd == 6) = false := beq_eq_false_iff_ne.2 h6
        have b7 : (kd == 7) = false := beq_eq_false_iff_ne.2 h7
        have b9 : (kd == 9) = false := beq_eq_false_iff_ne.2 h9
        clear HT HS
        go_enter Tryd.func7, Tryd.ntmps7
        go_wp2_with (go_at_call 14; with_reducible refine (HK.out _).mono ?_; rintro e w2 ⟨rfl, hb⟩; have HB_ := Aside0.mk (below_step HB.out hb); clear HB hb; have HB := HB_; clear HB_)
        go_ret2
        exact ⟨rfl, HB.out⟩



/-! ### orielref04_Texts: function 13 -/
def orielref04_Texts.l0 : Nat → List ByteArray → List ByteArray → Int → Option (Bool)
  | 0, _, _, _ => none
  | k + 1, x0, x1, x5 => if x5 < (x0.length : Int) then (if 0 ≤ x5 then (if x5 < (x1.length : Int) then (if (rdOf ByteArray.empty x0 x5).toList = (rdOf ByteArray.empty x1 x5).toList then (orielref04_Texts.l0 k x0 x1 (wrap64 (x5 + 1))) else (some false)) else (none)) else (none)) else (some true)
def orielref04_Texts.f (k : Nat) (l0 : List ByteArray) (l1 : List ByteArray) : Option (Bool) := if (l0.length : Int) = (l1.length : Int) then (orielref04_Texts.l0 k l0 l1 0) else (some false)
theorem orielref04_Texts.mono_l : ∀ k, (∀ y0 y1 y2, LeO (orielref04_Texts.l0 k y0 y1 y2) (orielref04_Texts.l0 (k + 1) y0 y1 y2))
  | 0 => fun _ _ _ r h => by simp [orielref04_Texts.l0] at h
  | k + 1 => by
    have ih0 := orielref04_Texts.mono_l k
    · intro y0 y1 y2
      unfold orielref04_Texts.l0
      repeat' first
      | (with_reducible exact ih0 _ _ _)
      | (with_reducible exact LeO.refl _)
      | (with_reducible exact LeO.none _)
      | (with_reducible refine LeO.ite ?_ ?_)
      | (with_reducible refine LeO.bind ?_ (fun _ => ?_))
      | exact ih0 _ _ _
      | exact LeO.none _
      | refine LeO.ite ?_ ?_
      | refine LeO.bind ?_ (fun _ => ?_)
theorem orielref04_Texts.mono : ∀ a0 a1 k, LeO (orielref04_Texts.f k a0 a1) (orielref04_Texts.f (k + 1) a0 a1) := by
  intro a0 a1 k
  have ih0 := orielref04_Texts.mono_l k
  unfold orielref04_Texts.f
  repeat' first
      | (with_reducible exact ih0 _ _ _)
      | (with_reducible exact LeO.refl _)
      | (with_reducible exact LeO.none _)
      | (with_reducible refine LeO.ite ?_ ?_)
      | (with_reducible refine LeO.bind ?_ (fun _ => ?_))
      | exact ih0 _ _ _
      | exact LeO.none _
      | refine LeO.ite ?_ ?_
      | refine LeO.bind ?_ (fun _ => ?_)
set_option maxHeartbeats 8000000 in
set_option maxRecDepth 100000 in
theorem orielref04_Texts.calls (k : Nat) (A0 : Option Addr) (c0 : Nat) (l0 : List ByteArray) (A1 : Option Addr) (c1 : Nat) (l1 : List ByteArray) (r : Bool) (w : World) (hr0 : Kd.C Kd.string w A0 l0.length l0) (hc0 : l0.length ≤ c0) (hr1 : Kd.C Kd.string w A1 l1.length l1) (hc1 : l1.length ≤ c1) (h : orielref04_Texts.f k l0 l1 = some r) :
    Calls Tryd.prog 13 #[.slice A0 l0.length c0, .slice A1 l1.length c1] w fun e w' => e = .returned (.bool r) ∧ Drawn0 w w' := by
  have HR0 := Aside0.mk hr0
  have HC0 := Aside0.mk hc0
  clear hr0 hc0
  have HR1 := Aside0.mk hr1
  have HC1 := Aside0.mk hc1
  clear hr1 hc1
  have H : (if (l0.length : Int) = (l1.length : Int) then (orielref04_Texts.l0 k l0 l1 0) else (some false)) = some r := h
  clear h
  by_cases c3 : (l0.length : Int) = (l1.length : Int)
  · rw [if_pos c3] at H
    have c3b0 : ((l0.length : Int) == (l1.length : Int)) = true := beq_iff_eq.mpr c3
    have c3b1 : ((l0.length : Int) != (l1.length : Int)) = false := bne_eq_false_iff_eq.mpr c3
    have c3b2 : (l0.length == l1.length) = true := by first | simpa using c3 | (simp at c3 ⊢; omega)
    clear c3
    have H' := Aside0.mk H
    clear H
    go_enter Tryd.func13, Tryd.ntmps13
    go_wp2
    repeat (go_quiet (fail); try go_wp2)
    go_loopg [5] k (fun kq v5 w' => ∃ (x5_1 : Int), v5 = .int .i64 x5_1 ∧ Aside0 (orielref04_Texts.l0 kq l0 l1 x5_1 = some r) ∧ Aside0 (kq ≤ k) ∧ Drawn0 w w')
    case atStart => exact ⟨(0), (by first | rfl | (simp; done) | (simp [*]; done)), H', ⟨Nat.le_refl _⟩, by repeat (first | exact Drawn0.refl _ | apply Drawn0.step)⟩
    case round =>
      clear H'
      try clear c1
      try clear p2
      try clear c3
      try clear c3b0
      try clear c3b1
      try clear c3b2
      obtain ⟨x5_1, rfl, HA, HK1, ⟨m1, rfl⟩⟩ := hrel
      cases gk with
      | zero => exact absurd HA.out (by simp [orielref04_Texts.l0])
      | succ k1 =>
        have H := HA.out
        clear HA
        simp only [orielref04_Texts.l0] at H
        by_cases c4 : x5_1 < (l0.length : Int)
        · rw [if_pos c4] at H
          have c4b0 : decide (x5_1 < (l0.length : Int)) = true := decide_eq_true c4
          clear c4
          by_cases c5 : 0 ≤ x5_1
          · rw [if_pos c5] at H
            have c5b0 : decide (0 ≤ x5_1) = true := decide_eq_true c5
            clear c5
            by_cases c6 : x5_1 < (l1.length : Int)
            · rw [if_pos c6] at H
              have c6b0 : decide (x5_1 < (l1.length : Int)) = true := decide_eq_true c6
              clear c6
              by_cases c7 : (rdOf ByteArray.empty l0 x5_1).toList = (rdOf ByteArray.empty l1 x5_1).toList
              · rw [if_pos c7] at H
                have c7b0 : ((rdOf ByteArray.empty l0 x5_1).toList == (rdOf ByteArray.empty l1 x5_1).toList) = true := beq_iff_eq.mpr c7
                have c7b1 : ((rdOf ByteArray.empty l0 x5_1).toList != (rdOf ByteArray.empty l1 x5_1).toList) = false := bne_eq_false_iff_eq.mpr c7
                clear c7
                have H' := Aside0.mk H
                clear H
                have p167 : 0 ≤ (x5_1 : Int) := of_decide_eq_true (by first | (with_reducible assumption) | assumption)
                have q167 : x5_1 < (l0.length : Int) := of_decide_eq_true (by first | (with_reducible assumption) | assumption)
                obtain ⟨ad167, e167, hx167_0⟩ := Kd.at_string HR0.out x5_1 p167 q167
                cases e167
                replace p167 := eq_true p167
                replace q167 := eq_true q167
                have p168 : 0 ≤ (x5_1 : Int) := of_decide_eq_true (by first | (with_reducible assumption) | assumption)
                have q168 : x5_1 < (l1.length : Int) := of_decide_eq_true (by first | (with_reducible assumption) | assumption)
                obtain ⟨ad168, e168, hx168_0⟩ := Kd.at_string HR1.out x5_1 p168 q168
                cases e168
                replace p168 := eq_true p168
                replace q168 := eq_true q168
                go_wp2
                repeat (go_quiet (fail); try go_wp2)
                go_roundg k1
                case measure => have := HK1.out; omega
                case rel => exact ⟨(wrap64 (x5_1 + 1)), (by first | rfl | (simp; done) | (simp [*]; done)), H', ⟨by have := HK1.out; omega⟩, by repeat (first | exact Drawn0.refl _ | apply Drawn0.step)⟩
              · rw [if_neg c7] at H
                have c7b0 : ((rdOf ByteArray.empty l0 x5_1).toList == (rdOf ByteArray.empty l1 x5_1).toList) = false := beq_eq_false_iff_ne.mpr c7
                have c7b1 : ((rdOf ByteArray.empty l0 x5_1).toList != (rdOf ByteArray.empty l1 x5_1).toList) = true := bne_iff_ne.mpr c7
                obtain rfl := Option.some.inj H
                have p167 : 0 ≤ (x5_1 : Int) := of_decide_eq_true (by first | (with_reducible assumption) | assumption)
                have q167 : x5_1 < (l0.length : Int) := of_decide_eq_true (by first | (with_reducible assumption) | assumption)
                obtain ⟨ad167, e167, hx167_0⟩ := Kd.at_string HR0.out x5_1 p167 q167
                cases e167
                replace p167 := eq_true p167
                replace q167 := eq_true q167
                have p168 : 0 ≤ (x5_1 : Int) := of_decide_eq_true (by first | (with_reducible assumption) | assumption)
                have q168 : x5_1 < (l1.length : Int) := of_decide_eq_true (by first | (with_reducible assumption) | assumption)
                obtain ⟨ad168, e168, hx168_0⟩ := Kd.at_string HR1.out x5_1 p168 q168
                cases e168
                replace p168 := eq_true p168
                replace q168 := eq_true q168
                go_wp2
                repeat (go_quiet (fail); try go_wp2)
                go_ret
                exact ⟨by first | rfl | (simp; done) | (simp [*]; done), by repeat (first | exact Drawn0.refl _ | apply Drawn0.step)⟩
            · rw [if_neg c6] at H
              exact absurd H (by simp)
          · rw [if_neg c5] at H
            exact absurd H (by simp)
        · rw [if_neg c4] at H
          have c4b0 : decide (x5_1 < (l0.length : Int)) = false := decide_eq_false c4
          clear c4
          obtain rfl := Option.some.inj H
          go_wp2
          repeat (go_quiet (fail); try go_wp2)
          go_ret
          exact ⟨by first | rfl | (simp; done) | (simp [*]; done), by repeat (first | exact Drawn0.refl _ | apply Drawn0.step)⟩
  · rw [if_neg c3] at H
    have c3b0 : ((l0.length : Int) == (l1.length : Int)) = false := beq_eq_false_iff_ne.mpr c3
    have c3b1 : ((l0.length : Int) != (l1.length : Int)) = true := bne_iff_ne.mpr c3
    have c3b2 : (l0.length == l1.length) = false := by first | simpa using c3 | (simp at c3 ⊢; omega)
    obtain rfl := Option.some.inj H
    go_enter Tryd.func13, Tryd.ntmps13
    go_wp2
    repeat (go_quiet (fail); try go_wp2)
    go_ret
    exact ⟨by first | rfl | (simp; done) | (simp [*]; done), by repeat (first | exact Drawn0.refl _ | apply Drawn0.step)⟩

end Go.Proofs.YtfccifekaokibaaDoor.QF
