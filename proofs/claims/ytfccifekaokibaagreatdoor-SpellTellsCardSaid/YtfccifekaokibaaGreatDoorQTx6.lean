-- Laid by this claim's own program (mprint.py in the repo).
import Derived.Test.YtfccifekaokibaaGreatDoorQTx0
import Derived.Test.YtfccifekaokibaaGreatDoorQTx4
import Derived.Test.YtfccifekaokibaaGreatDoorQTx5
namespace Go.Proofs.YtfccifekaokibaaGreatDoor.QT
open Go.RowKit Go.Proofs.YtfccifekaokibaaGreatDoorW.PrintWords Go.Proofs.YtfccifekaokibaaGreatDoorW.PrintLast Go.Proofs.YtfccifekaokibaaGreatDoorW.PrintMore
attribute [local go_sem] max2_int min2_int max_two min_two max_three min_three max_four min_four   -- for this text's walks alone
set_option linter.unusedVariables false
set_option linter.unusedSimpArgs false

/-! ### lex_cursor_run__lex_blank: function 144 -/
def lex_cursor_run__lex_blank.l0 : Nat → Int → ByteArray → Int → Option (Int × ByteArray × Int)
 | 0, _, _, _ => none
 | k + 1, x1, x1000, x1001 => if x1 < (x1000.size : Int) then (if 0 ≤ x1 then ((lex_blank.f (bt x1000 x1)).bind fun t148 => (if t148 = true then (lex_cursor_run__lex_blank.l0 k (wrap64 (x1 + 1)) x1000 x1001) else (some (x1, x1000, x1001)))) else (none)) else (some (x1, x1000, x1001))
def lex_cursor_run__lex_blank.f (k : Nat) (s0_0 : ByteArray) (s0_1 : Int) (a1 : Int)  : Option (Int × ByteArray × Int) := lex_cursor_run__lex_blank.l0 k a1 s0_0 s0_1
theorem lex_cursor_run__lex_blank.mono_l : ∀ k, (∀ y0 y1 y2, LeO (lex_cursor_run__lex_blank.l0 k y0 y1 y2) (lex_cursor_run__lex_blank.l0 (k + 1) y0 y1 y2))
 | 0 => fun _ _ _ r h => by simp [lex_cursor_run__lex_blank.l0] at h
 | k + 1 => by
  have ih0 := lex_cursor_run__lex_blank.mono_l k
  ·intro y0 y1 y2
   unfold lex_cursor_run__lex_blank.l0
   repeat' first
   | (with_reducible exact ih0 _ _ _)
   | (with_reducible exact LeO.refl _)
   | (with_reducible refine LeO.ite ?_ ?_)
   | (with_reducible refine LeO.bind ?_ (fun _ => ?_))
theorem lex_cursor_run__lex_blank.mono : ∀ a0 a1 a2 k, LeO (lex_cursor_run__lex_blank.f k a0 a1 a2) (lex_cursor_run__lex_blank.f (k + 1) a0 a1 a2) := by
 intro a0 a1 a2 k
 have ih0 := lex_cursor_run__lex_blank.mono_l k
 unfold lex_cursor_run__lex_blank.f
 repeat' with_reducible exact ih0 _ _ _
set_option maxHeartbeats 8000000 in
set_option maxRecDepth 100000 in
theorem lex_cursor_run__lex_blank.calls (k : Nat) (g : Nat) (s0_0 : ByteArray) (s0_1 : Int) (a1 : Int)  (r1 : Int) (r2 : ByteArray) (r3 : Int) (w0 w : World) (hI : IsS82 w0 w g s0_0 s0_1) (hB : Below w0.heap.size w0 w) (h : lex_cursor_run__lex_blank.f k s0_0 s0_1 a1 = some (r1, r2, r3)) :
  Calls Tryz.prog 93 #[.pointer (some ⟨g, 0, none⟩), .int .i64 a1, .func (.func 92) #[] #[]] w fun e w' => e = .returned (.int .i64 r1) ∧ IsS82 w0 w' g r2 r3 ∧ Below w0.heap.size w0 w' ∧ KeepBut w w' g none := by
 have HI0 := Aside0.mk hI
 have HK := Aside0.mk (KeepBut.refl w g none)
 have HL := Aside0.mk hB.size
 clear hI
 have HW0 := Aside0.mk hB.size
 have HB := Aside0.mk hB
 clear hB
 have H : (lex_cursor_run__lex_blank.l0 k a1 s0_0 s0_1) = some (r1, r2, r3) := h
 clear h
 have H' := Aside0.mk H
 clear H
 go_enter Tryz.func93, Tryz.ntmps93
 go_wp2
 go_loopg [1] k (fun kq v1 w' => ∃ (x1_1 : Int), v1 = .int .i64 x1_1 ∧ Aside0 (lex_cursor_run__lex_blank.l0 kq x1_1 s0_0 s0_1 = some (r1, r2, r3)) ∧ Aside0 (kq ≤ k) ∧ Aside0 (IsS82 w0 w' g s0_0 s0_1) ∧ Aside0 (KeepBut w w' g none) ∧ Aside0 (Below w0.heap.size w0 w'))
 case atStart => exact ⟨(a1), (by rfl), H', ⟨Nat.le_refl _⟩, ⟨by repeat (with_reducible exact HI0.out)⟩, ⟨by repeat (with_reducible exact HK.out)⟩, ⟨by repeat (with_reducible exact HB.out)⟩⟩
 case round =>
  clear H'
  obtain ⟨x1_1, rfl, HA, HK1, HI0, HK, HB⟩ := hrel
  cases gk with
  | zero => exact absurd HA.out (by simp [lex_cursor_run__lex_blank.l0])
  | succ k1 =>
   have H := HA.out
   clear HA
   simp only [lex_cursor_run__lex_blank.l0] at H
   by_cases c4 : x1_1 < (s0_0.size : Int)
   ·rw [if_pos c4] at H
    have c4b0 : decide (x1_1 < (s0_0.size : Int)) = true := decide_eq_true c4
    clear c4
    by_cases c5 : 0 ≤ x1_1
    ·rw [if_pos c5] at H
     have c5b0 : decide (0 ≤ x1_1) = true := decide_eq_true c5
     clear c5
     replace H := Option.bind_eq_some_iff.mp H
     obtain ⟨t148, A70, H⟩ := H
     replace H : (if t148 = true then (lex_cursor_run__lex_blank.l0 k1 (wrap64 (x1_1 + 1)) s0_0 s0_1) else (some (x1_1, s0_0, s0_1))) = some (r1, r2, r3) := H
     have A7 := Aside0.mk A70
     clear A70
     by_cases c8 : t148 = true
     ·subst c8
      have H1 : (lex_cursor_run__lex_blank.l0 k1 (wrap64 (x1_1 + 1)) s0_0 s0_1) = some (r1, r2, r3) := by rw [if_pos rfl] at H; exact H
      clear H
      have H := H1
      clear H1
      have H' := Aside0.mk H
      clear H
      obtain ⟨HGz9, hgz9⟩ := HI0.out
      have hcz9_0 := cellS82_0 HGz9
      have hcz9_1 := cellS82_1 HGz9
      have hfz9_0 := blk_frozen HGz9 0
      have hfz9_1 := blk_frozen HGz9 1
      clear HGz9 hgz9
      have p6 : 0 ≤ (x1_1 : Int) := of_decide_eq_true (by with_reducible assumption)
      have q6 : x1_1 < (s0_0.size : Int) := of_decide_eq_true (by with_reducible assumption)
      have hx6 := bt_at s0_0 x1_1
      replace p6 := eq_true p6
      replace q6 := eq_true q6
      go_wp2_with ((go_at_call 92; (with_reducible refine (lex_blank.calls (bt s0_0 x1_1) true _ A7.out).mono ?_); rintro e w' ⟨rfl, ⟨nd, rfl⟩⟩))
      go_roundg k1
      case measure => have := HK1.out; omega
      case rel => exact ⟨(wrap64 (x1_1 + 1)), (by rfl), H', ⟨by have := HK1.out; omega⟩, ⟨by repeat ((with_reducible first | exact HI0.out | apply IsS82.drewN ))⟩, ⟨by repeat ((with_reducible first | exact HK.out | apply keep_drewN ))⟩, ⟨by repeat ((with_reducible first | exact HB.out | apply pw_below_drewN ))⟩⟩
     ·replace c8 := Bool.eq_false_iff.mpr c8
      subst c8
      have H1 : (some (x1_1, s0_0, s0_1)) = some (r1, r2, r3) := by rw [if_neg (show ¬ (false = true) by decide)] at H; exact H
      clear H
      have H := H1
      clear H1
      simp only [Option.some.injEq, Prod.mk.injEq] at H
      obtain ⟨rfl, rfl, rfl⟩ := H
      obtain ⟨HGz10, hgz10⟩ := HI0.out
      have hcz10_0 := cellS82_0 HGz10
      have hcz10_1 := cellS82_1 HGz10
      have hfz10_0 := blk_frozen HGz10 0
      have hfz10_1 := blk_frozen HGz10 1
      clear HGz10 hgz10
      have p6 : 0 ≤ (x1_1 : Int) := of_decide_eq_true (by with_reducible assumption)
      have q6 : x1_1 < (s0_0.size : Int) := of_decide_eq_true (by with_reducible assumption)
      have hx6 := bt_at s0_0 x1_1
      replace p6 := eq_true p6
      replace q6 := eq_true q6
      go_wp2_with ((go_at_call 92; (with_reducible refine (lex_blank.calls (bt s0_0 x1_1) false _ A7.out).mono ?_); rintro e w' ⟨rfl, ⟨nd, rfl⟩⟩))
      go_ret
      exact ⟨by rfl, by repeat ((with_reducible first | exact HI0.out | apply IsS82.drewN )), by repeat ((with_reducible first | exact HB.out | apply pw_below_drewN )), by repeat ((with_reducible first | exact HK.out | apply keep_drewN ))⟩
    ·rw [if_neg c5] at H
     exact absurd H (by simp)
   ·rw [if_neg c4] at H
    have c4b0 : decide (x1_1 < (s0_0.size : Int)) = false := decide_eq_false c4
    clear c4
    simp only [Option.some.injEq, Prod.mk.injEq] at H
    obtain ⟨rfl, rfl, rfl⟩ := H
    obtain ⟨HGz11, hgz11⟩ := HI0.out
    have hcz11_0 := cellS82_0 HGz11
    have hcz11_1 := cellS82_1 HGz11
    have hfz11_0 := blk_frozen HGz11 0
    have hfz11_1 := blk_frozen HGz11 1
    clear HGz11 hgz11
    go_wp2
    go_ret
    exact ⟨by rfl, by repeat (with_reducible exact HI0.out), by repeat (with_reducible exact HB.out), by repeat (with_reducible exact HK.out)⟩

/-! ### lex_cursor_run__lex_digit: function 145 -/
def lex_cursor_run__lex_digit.l0 : Nat → Int → ByteArray → Int → Option (Int × ByteArray × Int)
 | 0, _, _, _ => none
 | k + 1, x1, x1000, x1001 => if x1 < (x1000.size : Int) then (if 0 ≤ x1 then ((lex_digit.f (bt x1000 x1)).bind fun t149 => (if t149 = true then (lex_cursor_run__lex_digit.l0 k (wrap64 (x1 + 1)) x1000 x1001) else (some (x1, x1000, x1001)))) else (none)) else (some (x1, x1000, x1001))
def lex_cursor_run__lex_digit.f (k : Nat) (s0_0 : ByteArray) (s0_1 : Int) (a1 : Int)  : Option (Int × ByteArray × Int) := lex_cursor_run__lex_digit.l0 k a1 s0_0 s0_1
theorem lex_cursor_run__lex_digit.mono_l : ∀ k, (∀ y0 y1 y2, LeO (lex_cursor_run__lex_digit.l0 k y0 y1 y2) (lex_cursor_run__lex_digit.l0 (k + 1) y0 y1 y2))
 | 0 => fun _ _ _ r h => by simp [lex_cursor_run__lex_digit.l0] at h
 | k + 1 => by
  have ih0 := lex_cursor_run__lex_digit.mono_l k
  ·intro y0 y1 y2
   unfold lex_cursor_run__lex_digit.l0
   repeat' first
   | (with_reducible exact ih0 _ _ _)
   | (with_reducible exact LeO.refl _)
   | (with_reducible refine LeO.ite ?_ ?_)
   | (with_reducible refine LeO.bind ?_ (fun _ => ?_))
theorem lex_cursor_run__lex_digit.mono : ∀ a0 a1 a2 k, LeO (lex_cursor_run__lex_digit.f k a0 a1 a2) (lex_cursor_run__lex_digit.f (k + 1) a0 a1 a2) := by
 intro a0 a1 a2 k
 have ih0 := lex_cursor_run__lex_digit.mono_l k
 unfold lex_cursor_run__lex_digit.f
 repeat' with_reducible exact ih0 _ _ _
set_option maxHeartbeats 8000000 in
set_option maxRecDepth 100000 in
theorem lex_cursor_run__lex_digit.calls (k : Nat) (g : Nat) (s0_0 : ByteArray) (s0_1 : Int) (a1 : Int)  (r1 : Int) (r2 : ByteArray) (r3 : Int) (w0 w : World) (hI : IsS82 w0 w g s0_0 s0_1) (hB : Below w0.heap.size w0 w) (h : lex_cursor_run__lex_digit.f k s0_0 s0_1 a1 = some (r1, r2, r3)) :
  Calls Tryz.prog 93 #[.pointer (some ⟨g, 0, none⟩), .int .i64 a1, .func (.func 98) #[] #[]] w fun e w' => e = .returned (.int .i64 r1) ∧ IsS82 w0 w' g r2 r3 ∧ Below w0.heap.size w0 w' ∧ KeepBut w w' g none := by
 have HI0 := Aside0.mk hI
 have HK := Aside0.mk (KeepBut.refl w g none)
 have HL := Aside0.mk hB.size
 clear hI
 have HW0 := Aside0.mk hB.size
 have HB := Aside0.mk hB
 clear hB
 have H : (lex_cursor_run__lex_digit.l0 k a1 s0_0 s0_1) = some (r1, r2, r3) := h
 clear h
 have H' := Aside0.mk H
 clear H
 go_enter Tryz.func93, Tryz.ntmps93
 go_wp2
 go_loopg [1] k (fun kq v1 w' => ∃ (x1_1 : Int), v1 = .int .i64 x1_1 ∧ Aside0 (lex_cursor_run__lex_digit.l0 kq x1_1 s0_0 s0_1 = some (r1, r2, r3)) ∧ Aside0 (kq ≤ k) ∧ Aside0 (IsS82 w0 w' g s0_0 s0_1) ∧ Aside0 (KeepBut w w' g none) ∧ Aside0 (Below w0.heap.size w0 w'))
 case atStart => exact ⟨(a1), (by rfl), H', ⟨Nat.le_refl _⟩, ⟨by repeat (with_reducible exact HI0.out)⟩, ⟨by repeat (with_reducible exact HK.out)⟩, ⟨by repeat (with_reducible exact HB.out)⟩⟩
 case round =>
  clear H'
  obtain ⟨x1_1, rfl, HA, HK1, HI0, HK, HB⟩ := hrel
  cases gk with
  | zero => exact absurd HA.out (by simp [lex_cursor_run__lex_digit.l0])
  | succ k1 =>
   have H := HA.out
   clear HA
   simp only [lex_cursor_run__lex_digit.l0] at H
   by_cases c4 : x1_1 < (s0_0.size : Int)
   ·rw [if_pos c4] at H
    have c4b0 : decide (x1_1 < (s0_0.size : Int)) = true := decide_eq_true c4
    clear c4
    by_cases c5 : 0 ≤ x1_1
    ·rw [if_pos c5] at H
     have c5b0 : decide (0 ≤ x1_1) = true := decide_eq_true c5
     clear c5
     replace H := Option.bind_eq_some_iff.mp H
     obtain ⟨t149, A70, H⟩ := H
     replace H : (if t149 = true then (lex_cursor_run__lex_digit.l0 k1 (wrap64 (x1_1 + 1)) s0_0 s0_1) else (some (x1_1, s0_0, s0_1))) = some (r1, r2, r3) := H
     have A7 := Aside0.mk A70
     clear A70
     by_cases c8 : t149 = true
     ·subst c8
      have H1 : (lex_cursor_run__lex_digit.l0 k1 (wrap64 (x1_1 + 1)) s0_0 s0_1) = some (r1, r2, r3) := by rw [if_pos rfl] at H; exact H
      clear H
      have H := H1
      clear H1
      have H' := Aside0.mk H
      clear H
      obtain ⟨HGz9, hgz9⟩ := HI0.out
      have hcz9_0 := cellS82_0 HGz9
      have hcz9_1 := cellS82_1 HGz9
      have hfz9_0 := blk_frozen HGz9 0
      have hfz9_1 := blk_frozen HGz9 1
      clear HGz9 hgz9
      have p6 : 0 ≤ (x1_1 : Int) := of_decide_eq_true (by with_reducible assumption)
      have q6 : x1_1 < (s0_0.size : Int) := of_decide_eq_true (by with_reducible assumption)
      have hx6 := bt_at s0_0 x1_1
      replace p6 := eq_true p6
      replace q6 := eq_true q6
      go_wp2_with ((go_at_call 98; (with_reducible refine (lex_digit.calls (bt s0_0 x1_1) true _ A7.out).mono ?_); rintro e w' ⟨rfl, ⟨nd, rfl⟩⟩))
      go_roundg k1
      case measure => have := HK1.out; omega
      case rel => exact ⟨(wrap64 (x1_1 + 1)), (by rfl), H', ⟨by have := HK1.out; omega⟩, ⟨by repeat ((with_reducible first | exact HI0.out | apply IsS82.drewN ))⟩, ⟨by repeat ((with_reducible first | exact HK.out | apply keep_drewN ))⟩, ⟨by repeat ((with_reducible first | exact HB.out | apply pw_below_drewN ))⟩⟩
     ·replace c8 := Bool.eq_false_iff.mpr c8
      subst c8
      have H1 : (some (x1_1, s0_0, s0_1)) = some (r1, r2, r3) := by rw [if_neg (show ¬ (false = true) by decide)] at H; exact H
      clear H
      have H := H1
      clear H1
      simp only [Option.some.injEq, Prod.mk.injEq] at H
      obtain ⟨rfl, rfl, rfl⟩ := H
      obtain ⟨HGz10, hgz10⟩ := HI0.out
      have hcz10_0 := cellS82_0 HGz10
      have hcz10_1 := cellS82_1 HGz10
      have hfz10_0 := blk_frozen HGz10 0
      have hfz10_1 := blk_frozen HGz10 1
      clear HGz10 hgz10
      have p6 : 0 ≤ (x1_1 : Int) := of_decide_eq_true (by with_reducible assumption)
      have q6 : x1_1 < (s0_0.size : Int) := of_decide_eq_true (by with_reducible assumption)
      have hx6 := bt_at s0_0 x1_1
      replace p6 := eq_true p6
      replace q6 := eq_true q6
      go_wp2_with ((go_at_call 98; (with_reducible refine (lex_digit.calls (bt s0_0 x1_1) false _ A7.out).mono ?_); rintro e w' ⟨rfl, ⟨nd, rfl⟩⟩))
      go_ret
      exact ⟨by rfl, by repeat ((with_reducible first | exact HI0.out | apply IsS82.drewN )), by repeat ((with_reducible first | exact HB.out | apply pw_below_drewN )), by repeat ((with_reducible first | exact HK.out | apply keep_drewN ))⟩
    ·rw [if_neg c5] at H
     exact absurd H (by simp)
   ·rw [if_neg c4] at H
    have c4b0 : decide (x1_1 < (s0_0.size : Int)) = false := decide_eq_false c4
    clear c4
    simp only [Option.some.injEq, Prod.mk.injEq] at H
    obtain ⟨rfl, rfl, rfl⟩ := H
    obtain ⟨HGz11, hgz11⟩ := HI0.out
    have hcz11_0 := cellS82_0 HGz11
    have hcz11_1 := cellS82_1 HGz11
    have hfz11_0 := blk_frozen HGz11 0
    have hfz11_1 := blk_frozen HGz11 1
    clear HGz11 hgz11
    go_wp2
    go_ret
    exact ⟨by rfl, by repeat (with_reducible exact HI0.out), by repeat (with_reducible exact HB.out), by repeat (with_reducible exact HK.out)⟩

/-! ### lex_cursor_run__lex_rest: function 146 -/
def lex_cursor_run__lex_rest.l0 : Nat → Int → ByteArray → Int → Option (Int × ByteArray × Int)
 | 0, _, _, _ => none
 | k + 1, x1, x1000, x1001 => if x1 < (x1000.size : Int) then (if 0 ≤ x1 then ((lex_rest.f k (bt x1000 x1)).bind fun t150 => (if t150 = true then (lex_cursor_run__lex_rest.l0 k (wrap64 (x1 + 1)) x1000 x1001) else (some (x1, x1000, x1001)))) else (none)) else (some (x1, x1000, x1001))
def lex_cursor_run__lex_rest.f (k : Nat) (s0_0 : ByteArray) (s0_1 : Int) (a1 : Int)  : Option (Int × ByteArray × Int) := lex_cursor_run__lex_rest.l0 k a1 s0_0 s0_1
theorem lex_cursor_run__lex_rest.mono_l : ∀ k, (∀ y0 y1 y2, LeO (lex_cursor_run__lex_rest.l0 k y0 y1 y2) (lex_cursor_run__lex_rest.l0 (k + 1) y0 y1 y2))
 | 0 => fun _ _ _ r h => by simp [lex_cursor_run__lex_rest.l0] at h
 | k + 1 => by
  have ih0 := lex_cursor_run__lex_rest.mono_l k
  ·intro y0 y1 y2
   unfold lex_cursor_run__lex_rest.l0
   repeat' first
   | (with_reducible exact ih0 _ _ _)
   | (with_reducible exact lex_rest.mono _ _)
   | (with_reducible exact LeO.refl _)
   | (with_reducible refine LeO.ite ?_ ?_)
   | (with_reducible refine LeO.bind ?_ (fun _ => ?_))
theorem lex_cursor_run__lex_rest.mono : ∀ a0 a1 a2 k, LeO (lex_cursor_run__lex_rest.f k a0 a1 a2) (lex_cursor_run__lex_rest.f (k + 1) a0 a1 a2) := by
 intro a0 a1 a2 k
 have ih0 := lex_cursor_run__lex_rest.mono_l k
 unfold lex_cursor_run__lex_rest.f
 repeat' with_reducible exact ih0 _ _ _
set_option maxHeartbeats 8000000 in
set_option maxRecDepth 100000 in
theorem lex_cursor_run__lex_rest.calls (k : Nat) (g : Nat) (s0_0 : ByteArray) (s0_1 : Int) (a1 : Int)  (r1 : Int) (r2 : ByteArray) (r3 : Int) (w0 w : World) (hI : IsS82 w0 w g s0_0 s0_1) (hB : Below w0.heap.size w0 w) (h : lex_cursor_run__lex_rest.f k s0_0 s0_1 a1 = some (r1, r2, r3)) :
  Calls Tryz.prog 93 #[.pointer (some ⟨g, 0, none⟩), .int .i64 a1, .func (.func 99) #[] #[]] w fun e w' => e = .returned (.int .i64 r1) ∧ IsS82 w0 w' g r2 r3 ∧ Below w0.heap.size w0 w' ∧ KeepBut w w' g none := by
 have HI0 := Aside0.mk hI
 have HK := Aside0.mk (KeepBut.refl w g none)
 have HL := Aside0.mk hB.size
 clear hI
 have HW0 := Aside0.mk hB.size
 have HB := Aside0.mk hB
 clear hB
 have H : (lex_cursor_run__lex_rest.l0 k a1 s0_0 s0_1) = some (r1, r2, r3) := h
 clear h
 have H' := Aside0.mk H
 clear H
 go_enter Tryz.func93, Tryz.ntmps93
 go_wp2
 go_loopg [1] k (fun kq v1 w' => ∃ (x1_1 : Int), v1 = .int .i64 x1_1 ∧ Aside0 (lex_cursor_run__lex_rest.l0 kq x1_1 s0_0 s0_1 = some (r1, r2, r3)) ∧ Aside0 (kq ≤ k) ∧ Aside0 (IsS82 w0 w' g s0_0 s0_1) ∧ Aside0 (KeepBut w w' g none) ∧ Aside0 (Below w0.heap.size w0 w'))
 case atStart => exact ⟨(a1), (by rfl), H', ⟨Nat.le_refl _⟩, ⟨by repeat (with_reducible exact HI0.out)⟩, ⟨by repeat (with_reducible exact HK.out)⟩, ⟨by repeat (with_reducible exact HB.out)⟩⟩
 case round =>
  clear H'
  obtain ⟨x1_1, rfl, HA, HK1, HI0, HK, HB⟩ := hrel
  cases gk with
  | zero => exact absurd HA.out (by simp [lex_cursor_run__lex_rest.l0])
  | succ k1 =>
   have H := HA.out
   clear HA
   simp only [lex_cursor_run__lex_rest.l0] at H
   by_cases c4 : x1_1 < (s0_0.size : Int)
   ·rw [if_pos c4] at H
    have c4b0 : decide (x1_1 < (s0_0.size : Int)) = true := decide_eq_true c4
    clear c4
    by_cases c5 : 0 ≤ x1_1
    ·rw [if_pos c5] at H
     have c5b0 : decide (0 ≤ x1_1) = true := decide_eq_true c5
     clear c5
     replace H := Option.bind_eq_some_iff.mp H
     obtain ⟨t150, A70, H⟩ := H
     replace H : (if t150 = true then (lex_cursor_run__lex_rest.l0 k1 (wrap64 (x1_1 + 1)) s0_0 s0_1) else (some (x1_1, s0_0, s0_1))) = some (r1, r2, r3) := H
     have A7 := Aside0.mk A70
     clear A70
     by_cases c8 : t150 = true
     ·subst c8
      have H1 : (lex_cursor_run__lex_rest.l0 k1 (wrap64 (x1_1 + 1)) s0_0 s0_1) = some (r1, r2, r3) := by rw [if_pos rfl] at H; exact H
      clear H
      have H := H1
      clear H1
      have H' := Aside0.mk H
      clear H
      obtain ⟨HGz9, hgz9⟩ := HI0.out
      have hcz9_0 := cellS82_0 HGz9
      have hcz9_1 := cellS82_1 HGz9
      have hfz9_0 := blk_frozen HGz9 0
      have hfz9_1 := blk_frozen HGz9 1
      clear HGz9 hgz9
      have p6 : 0 ≤ (x1_1 : Int) := of_decide_eq_true (by with_reducible assumption)
      have q6 : x1_1 < (s0_0.size : Int) := of_decide_eq_true (by with_reducible assumption)
      have hx6 := bt_at s0_0 x1_1
      replace p6 := eq_true p6
      replace q6 := eq_true q6
      go_wp2_with ((go_at_call 99; (with_reducible refine (lex_rest.calls k1 (bt s0_0 x1_1) true _ A7.out).mono ?_); rintro e w10 ⟨rfl, hb⟩; have n0_ := Aside0.mk (IsS82.below (by repeat (with_reducible exact HI0.out)) hb); have n1_ := Aside0.mk (KeepBut.trans (by repeat (with_reducible exact HK.out)) (KeepBut.of_below hb g none) (.inl rfl)); have n2_ := Aside0.mk (below_step (by repeat (with_reducible exact HB.out)) hb); clear HI0; clear HK; clear HB; have HI0 := n0_; have HK := n1_; have HB := n2_; clear n0_ n1_ n2_; (try clear hb); (try clear hb2); (try clear hk); (try clear hi)))
      go_roundg k1
      case measure => have := HK1.out; omega
      case rel => exact ⟨(wrap64 (x1_1 + 1)), (by rfl), H', ⟨by have := HK1.out; omega⟩, ⟨by repeat (with_reducible exact HI0.out)⟩, ⟨by repeat (with_reducible exact HK.out)⟩, ⟨by repeat (with_reducible exact HB.out)⟩⟩
     ·replace c8 := Bool.eq_false_iff.mpr c8
      subst c8
      have H1 : (some (x1_1, s0_0, s0_1)) = some (r1, r2, r3) := by rw [if_neg (show ¬ (false = true) by decide)] at H; exact H
      clear H
      have H := H1
      clear H1
      simp only [Option.some.injEq, Prod.mk.injEq] at H
      obtain ⟨rfl, rfl, rfl⟩ := H
      obtain ⟨HGz11, hgz11⟩ := HI0.out
      have hcz11_0 := cellS82_0 HGz11
      have hcz11_1 := cellS82_1 HGz11
      have hfz11_0 := blk_frozen HGz11 0
      have hfz11_1 := blk_frozen HGz11 1
      clear HGz11 hgz11
      have p6 : 0 ≤ (x1_1 : Int) := of_decide_eq_true (by with_reducible assumption)
      have q6 : x1_1 < (s0_0.size : Int) := of_decide_eq_true (by with_reducible assumption)
      have hx6 := bt_at s0_0 x1_1
      replace p6 := eq_true p6
      replace q6 := eq_true q6
      go_wp2_with ((go_at_call 99; (with_reducible refine (lex_rest.calls k1 (bt s0_0 x1_1) false _ A7.out).mono ?_); rintro e w12 ⟨rfl, hb⟩; have n0_ := Aside0.mk (IsS82.below (by repeat (with_reducible exact HI0.out)) hb); have n1_ := Aside0.mk (KeepBut.trans (by repeat (with_reducible exact HK.out)) (KeepBut.of_below hb g none) (.inl rfl)); have n2_ := Aside0.mk (below_step (by repeat (with_reducible exact HB.out)) hb); clear HI0; clear HK; clear HB; have HI0 := n0_; have HK := n1_; have HB := n2_; clear n0_ n1_ n2_; (try clear hb); (try clear hb2); (try clear hk); (try clear hi)))
      go_ret
      exact ⟨by rfl, by repeat (with_reducible exact HI0.out), by repeat (with_reducible exact HB.out), by repeat (with_reducible exact HK.out)⟩
    ·rw [if_neg c5] at H
     exact absurd H (by simp)
   ·rw [if_neg c4] at H
    have c4b0 : decide (x1_1 < (s0_0.size : Int)) = false := decide_eq_false c4
    clear c4
    simp only [Option.some.injEq, Prod.mk.injEq] at H
    obtain ⟨rfl, rfl, rfl⟩ := H
    obtain ⟨HGz13, hgz13⟩ := HI0.out
    have hcz13_0 := cellS82_0 HGz13
    have hcz13_1 := cellS82_1 HGz13
    have hfz13_0 := blk_frozen HGz13 0
    have hfz13_1 := blk_frozen HGz13 1
    clear HGz13 hgz13
    go_wp2
    go_ret
    exact ⟨by rfl, by repeat (with_reducible exact HI0.out), by repeat (with_reducible exact HB.out), by repeat (with_reducible exact HK.out)⟩

/-! ### lex_cursor_run__lex_sign: function 147 -/
def lex_cursor_run__lex_sign.l0 : Nat → Int → ByteArray → Int → Option (Int × ByteArray × Int)
 | 0, _, _, _ => none
 | k + 1, x1, x1000, x1001 => if x1 < (x1000.size : Int) then (if 0 ≤ x1 then ((lex_sign.f k (bt x1000 x1)).bind fun t151 => (if t151 = true then (lex_cursor_run__lex_sign.l0 k (wrap64 (x1 + 1)) x1000 x1001) else (some (x1, x1000, x1001)))) else (none)) else (some (x1, x1000, x1001))
def lex_cursor_run__lex_sign.f (k : Nat) (s0_0 : ByteArray) (s0_1 : Int) (a1 : Int)  : Option (Int × ByteArray × Int) := lex_cursor_run__lex_sign.l0 k a1 s0_0 s0_1
theorem lex_cursor_run__lex_sign.mono_l : ∀ k, (∀ y0 y1 y2, LeO (lex_cursor_run__lex_sign.l0 k y0 y1 y2) (lex_cursor_run__lex_sign.l0 (k + 1) y0 y1 y2))
 | 0 => fun _ _ _ r h => by simp [lex_cursor_run__lex_sign.l0] at h
 | k + 1 => by
  have ih0 := lex_cursor_run__lex_sign.mono_l k
  ·intro y0 y1 y2
   unfold lex_cursor_run__lex_sign.l0
   repeat' first
   | (with_reducible exact ih0 _ _ _)
   | (with_reducible exact lex_sign.mono _ _)
   | (with_reducible exact LeO.refl _)
   | (with_reducible refine LeO.ite ?_ ?_)
   | (with_reducible refine LeO.bind ?_ (fun _ => ?_))
theorem lex_cursor_run__lex_sign.mono : ∀ a0 a1 a2 k, LeO (lex_cursor_run__lex_sign.f k a0 a1 a2) (lex_cursor_run__lex_sign.f (k + 1) a0 a1 a2) := by
 intro a0 a1 a2 k
 have ih0 := lex_cursor_run__lex_sign.mono_l k
 unfold lex_cursor_run__lex_sign.f
 repeat' with_reducible exact ih0 _ _ _
set_option maxHeartbeats 8000000 in
set_option maxRecDepth 100000 in
theorem lex_cursor_run__lex_sign.calls (k : Nat) (g : Nat) (s0_0 : ByteArray) (s0_1 : Int) (a1 : Int)  (r1 : Int) (r2 : ByteArray) (r3 : Int) (w0 w : World) (hI : IsS82 w0 w g s0_0 s0_1) (hB : Below w0.heap.size w0 w) (h : lex_cursor_run__lex_sign.f k s0_0 s0_1 a1 = some (r1, r2, r3)) :
  Calls Tryz.prog 93 #[.pointer (some ⟨g, 0, none⟩), .int .i64 a1, .func (.func 100) #[] #[]] w fun e w' => e = .returned (.int .i64 r1) ∧ IsS82 w0 w' g r2 r3 ∧ Below w0.heap.size w0 w' ∧ KeepBut w w' g none := by
 have HI0 := Aside0.mk hI
 have HK := Aside0.mk (KeepBut.refl w g none)
 have HL := Aside0.mk hB.size
 clear hI
 have HW0 := Aside0.mk hB.size
 have HB := Aside0.mk hB
 clear hB
 have H : (lex_cursor_run__lex_sign.l0 k a1 s0_0 s0_1) = some (r1, r2, r3) := h
 clear h
 have H' := Aside0.mk H
 clear H
 go_enter Tryz.func93, Tryz.ntmps93
 go_wp2
 go_loopg [1] k (fun kq v1 w' => ∃ (x1_1 : Int), v1 = .int .i64 x1_1 ∧ Aside0 (lex_cursor_run__lex_sign.l0 kq x1_1 s0_0 s0_1 = some (r1, r2, r3)) ∧ Aside0 (kq ≤ k) ∧ Aside0 (IsS82 w0 w' g s0_0 s0_1) ∧ Aside0 (KeepBut w w' g none) ∧ Aside0 (Below w0.heap.size w0 w'))
 case atStart => exact ⟨(a1), (by rfl), H', ⟨Nat.le_refl _⟩, ⟨by repeat (with_reducible exact HI0.out)⟩, ⟨by repeat (with_reducible exact HK.out)⟩, ⟨by repeat (with_reducible exact HB.out)⟩⟩
 case round =>
  clear H'
  obtain ⟨x1_1, rfl, HA, HK1, HI0, HK, HB⟩ := hrel
  cases gk with
  | zero => exact absurd HA.out (by simp [lex_cursor_run__lex_sign.l0])
  | succ k1 =>
   have H := HA.out
   clear HA
   simp only [lex_cursor_run__lex_sign.l0] at H
   by_cases c4 : x1_1 < (s0_0.size : Int)
   ·rw [if_pos c4] at H
    have c4b0 : decide (x1_1 < (s0_0.size : Int)) = true := decide_eq_true c4
    clear c4
    by_cases c5 : 0 ≤ x1_1
    ·rw [if_pos c5] at H
     have c5b0 : decide (0 ≤ x1_1) = true := decide_eq_true c5
     clear c5
     replace H := Option.bind_eq_some_iff.mp H
     obtain ⟨t151, A70, H⟩ := H
     replace H : (if t151 = true then (lex_cursor_run__lex_sign.l0 k1 (wrap64 (x1_1 + 1)) s0_0 s0_1) else (some (x1_1, s0_0, s0_1))) = some (r1, r2, r3) := H
     have A7 := Aside0.mk A70
     clear A70
     by_cases c8 : t151 = true
     ·subst c8
      have H1 : (lex_cursor_run__lex_sign.l0 k1 (wrap64 (x1_1 + 1)) s0_0 s0_1) = some (r1, r2, r3) := by rw [if_pos rfl] at H; exact H
      clear H
      have H := H1
      clear H1
      have H' := Aside0.mk H
      clear H
      obtain ⟨HGz9, hgz9⟩ := HI0.out
      have hcz9_0 := cellS82_0 HGz9
      have hcz9_1 := cellS82_1 HGz9
      have hfz9_0 := blk_frozen HGz9 0
      have hfz9_1 := blk_frozen HGz9 1
      clear HGz9 hgz9
      have p6 : 0 ≤ (x1_1 : Int) := of_decide_eq_true (by with_reducible assumption)
      have q6 : x1_1 < (s0_0.size : Int) := of_decide_eq_true (by with_reducible assumption)
      have hx6 := bt_at s0_0 x1_1
      replace p6 := eq_true p6
      replace q6 := eq_true q6
      go_wp2_with ((go_at_call 100; (with_reducible refine (lex_sign.calls k1 (bt s0_0 x1_1) true _ A7.out).mono ?_); rintro e w10 ⟨rfl, hb⟩; have n0_ := Aside0.mk (IsS82.below (by repeat (with_reducible exact HI0.out)) hb); have n1_ := Aside0.mk (KeepBut.trans (by repeat (with_reducible exact HK.out)) (KeepBut.of_below hb g none) (.inl rfl)); have n2_ := Aside0.mk (below_step (by repeat (with_reducible exact HB.out)) hb); clear HI0; clear HK; clear HB; have HI0 := n0_; have HK := n1_; have HB := n2_; clear n0_ n1_ n2_; (try clear hb); (try clear hb2); (try clear hk); (try clear hi)))
      go_roundg k1
      case measure => have := HK1.out; omega
      case rel => exact ⟨(wrap64 (x1_1 + 1)), (by rfl), H', ⟨by have := HK1.out; omega⟩, ⟨by repeat (with_reducible exact HI0.out)⟩, ⟨by repeat (with_reducible exact HK.out)⟩, ⟨by repeat (with_reducible exact HB.out)⟩⟩
     ·replace c8 := Bool.eq_false_iff.mpr c8
      subst c8
      have H1 : (some (x1_1, s0_0, s0_1)) = some (r1, r2, r3) := by rw [if_neg (show ¬ (false = true) by decide)] at H; exact H
      clear H
      have H := H1
      clear H1
      simp only [Option.some.injEq, Prod.mk.injEq] at H
      obtain ⟨rfl, rfl, rfl⟩ := H
      obtain ⟨HGz11, hgz11⟩ := HI0.out
      have hcz11_0 := cellS82_0 HGz11
      have hcz11_1 := cellS82_1 HGz11
      have hfz11_0 := blk_frozen HGz11 0
      have hfz11_1 := blk_frozen HGz11 1
      clear HGz11 hgz11
      have p6 : 0 ≤ (x1_1 : Int) := of_decide_eq_true (by with_reducible assumption)
      have q6 : x1_1 < (s0_0.size : Int) := of_decide_eq_true (by with_reducible assumption)
      have hx6 := bt_at s0_0 x1_1
      replace p6 := eq_true p6
      replace q6 := eq_true q6
      go_wp2_with ((go_at_call 100; (with_reducible refine (lex_sign.calls k1 (bt s0_0 x1_1) false _ A7.out).mono ?_); rintro e w12 ⟨rfl, hb⟩; have n0_ := Aside0.mk (IsS82.below (by repeat (with_reducible exact HI0.out)) hb); have n1_ := Aside0.mk (KeepBut.trans (by repeat (with_reducible exact HK.out)) (KeepBut.of_below hb g none) (.inl rfl)); have n2_ := Aside0.mk (below_step (by repeat (with_reducible exact HB.out)) hb); clear HI0; clear HK; clear HB; have HI0 := n0_; have HK := n1_; have HB := n2_; clear n0_ n1_ n2_; (try clear hb); (try clear hb2); (try clear hk); (try clear hi)))
      go_ret
      exact ⟨by rfl, by repeat (with_reducible exact HI0.out), by repeat (with_reducible exact HB.out), by repeat (with_reducible exact HK.out)⟩
    ·rw [if_neg c5] at H
     exact absurd H (by simp)
   ·rw [if_neg c4] at H
    have c4b0 : decide (x1_1 < (s0_0.size : Int)) = false := decide_eq_false c4
    clear c4
    simp only [Option.some.injEq, Prod.mk.injEq] at H
    obtain ⟨rfl, rfl, rfl⟩ := H
    obtain ⟨HGz13, hgz13⟩ := HI0.out
    have hcz13_0 := cellS82_0 HGz13
    have hcz13_1 := cellS82_1 HGz13
    have hfz13_0 := blk_frozen HGz13 0
    have hfz13_1 := blk_frozen HGz13 1
    clear HGz13 hgz13
    go_wp2
    go_ret
    exact ⟨by rfl, by repeat (with_reducible exact HI0.out), by repeat (with_reducible exact HB.out), by repeat (with_reducible exact HK.out)⟩

end Go.Proofs.YtfccifekaokibaaGreatDoor.QT

