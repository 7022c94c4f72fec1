-- Laid by this claim's own program (mprint.py in the repo).
import Derived.Test.YtfccifekaokibaaGreatDoorQTx0
import Derived.Test.YtfccifekaokibaaGreatDoorQTx1
import Derived.Test.YtfccifekaokibaaGreatDoorQTx2
import Derived.Test.YtfccifekaokibaaGreatDoorQTx9
import Derived.Test.YtfccifekaokibaaGreatDoorQTx11
import Derived.Test.YtfccifekaokibaaGreatDoorQTx12
import Derived.Test.YtfccifekaokibaaGreatDoorQTx13
import Derived.Test.YtfccifekaokibaaGreatDoorQTx16
import Derived.Test.YtfccifekaokibaaGreatDoorQTx18
namespace Go.Proofs.YtfccifekaokibaaGreatDoor.QT
open Go.RowKit Go.Proofs.YtfccifekaokibaaGreatDoorW.PrintWords Go.Proofs.YtfccifekaokibaaGreatDoorW.PrintLast Go.Proofs.YtfccifekaokibaaGreatDoorW.PrintMore
attribute [local go_sem] max2_int min2_int max_two min_two max_three min_three max_four min_four   -- for this text's walks alone
set_option linter.unusedVariables false
set_option linter.unusedSimpArgs false

attribute [local go_sem high] eqA32
/-! ### oriellaw16_SpellTells: function 3 -/
mutual
def oriellaw16_SpellTells.j0 : Nat → List (S41) → ByteArray → Bool → Option (Bool)
 | 0, _, _, _ => none
 | k + 1, x0, x1, x21 => if x21 = true then ((oriellaw16_alive.f k).bind fun t368 => (some t368)) else ((spell_Fresh.f k x1 x0).bind fun bt369 => ((orielref16_Fresh.f k x1 x0).bind fun bt371 => ((spell_Places.f k x1 x0).bind fun t373 => ((orielref16_Places.f k x1 x0).bind fun t376 => (if (t373.length : Int) = (t376.length : Int) then (oriellaw16_SpellTells.l0 k x0 x1 bt369.1 bt369.2 bt371.1 bt371.2 t373 t376 (t373.length : Int) 0) else none)))))
def oriellaw16_SpellTells.l0 : Nat → List (S41) → ByteArray → ByteArray → Bool → ByteArray → Bool → List (S32) → List (S32) → Int → Int → Option (Bool)
 | 0, _, _, _, _, _, _, _, _, _, _ => none
 | k + 1, x0, x1, x5, x6, x7, x8, x9, x10, x47, x48 => if x48 < x47 then (if 0 ≤ x48 then (if x48 < (x9.length : Int) then (if x48 < (x10.length : Int) then (if (!(((rd_T32 x9 x48).f0) == ((rd_T32 x10 x48).f0)) || (!(((rd_T32 x9 x48).f1) == ((rd_T32 x10 x48).f1)))) = true then none else (oriellaw16_SpellTells.l0 k x0 x1 x5 x6 x7 x8 x9 x10 x47 (wrap64 (x48 + 1)))) else (none)) else (none)) else (none)) else ((orielref04_Kind.f k x1).bind fun t381 => (if t381 = 6 then (oriellaw16_SpellTells.j2 k x0 x1 x5 x6 x7 x8 x10 true) else (if t381 = 7 then (oriellaw16_SpellTells.j2 k x0 x1 x5 x6 x7 x8 x10 true) else (oriellaw16_SpellTells.j2 k x0 x1 x5 x6 x7 x8 x10 (t381 == 9)))))
def oriellaw16_SpellTells.j2 : Nat → List (S41) → ByteArray → ByteArray → Bool → ByteArray → Bool → List (S32) → Bool → Option (Bool)
 | 0, _, _, _, _, _, _, _, _ => none
 | k + 1, x0, x1, x5, x6, x7, x8, x10, x13 => if x5.toList = x7.toList then (if (x6 == x8) = true then ((spell_Taken.f k x0).bind fun t382 => ((orielref16_Taken.f k x0).bind fun t385 => ((orielref04_Texts.f k t382 t385).bind fun t388 => (if t388 = true then ((spell_Free.f k x1 x0).bind fun t389 => (if x13 = true then (if (t389 == ((x10.length : Int) == 0)) = true then ((oriellaw16_alive.f k).bind fun t390 => (some t390)) else none) else (if (t389 == false) = true then ((oriellaw16_alive.f k).bind fun t391 => (some t391)) else none))) else none)))) else none) else none
end
def oriellaw16_SpellTells.f (k : Nat) (l0 : List (S41)) (a1 : ByteArray) : Option (Bool) := (orielref10_Few.f k l0).bind fun t367 => (if t367 = true then (oriellaw16_SpellTells.j0 k l0 a1 (decide ((a1.size : Int) > 100))) else (oriellaw16_SpellTells.j0 k l0 a1 true))
theorem oriellaw16_SpellTells.mono_l : ∀ k, (∀ y0 y1 y2, LeO (oriellaw16_SpellTells.j0 k y0 y1 y2) (oriellaw16_SpellTells.j0 (k + 1) y0 y1 y2)) ∧ (∀ y0 y1 y2 y3 y4 y5 y6 y7 y8 y9, LeO (oriellaw16_SpellTells.l0 k y0 y1 y2 y3 y4 y5 y6 y7 y8 y9) (oriellaw16_SpellTells.l0 (k + 1) y0 y1 y2 y3 y4 y5 y6 y7 y8 y9)) ∧ (∀ y0 y1 y2 y3 y4 y5 y6 y7, LeO (oriellaw16_SpellTells.j2 k y0 y1 y2 y3 y4 y5 y6 y7) (oriellaw16_SpellTells.j2 (k + 1) y0 y1 y2 y3 y4 y5 y6 y7))
 | 0 => ⟨fun _ _ _ r h => by simp [oriellaw16_SpellTells.j0] at h, fun _ _ _ _ _ _ _ _ _ _ r h => by simp [oriellaw16_SpellTells.l0] at h, fun _ _ _ _ _ _ _ _ r h => by simp [oriellaw16_SpellTells.j2] at h⟩
 | k + 1 => by
  obtain ⟨ih0, ih1, ih2⟩ := oriellaw16_SpellTells.mono_l k
  refine ⟨?_, ?_, ?_⟩
  ·intro y0 y1 y2
   unfold oriellaw16_SpellTells.j0
   repeat' first
   | (with_reducible exact ih1 _ _ _ _ _ _ _ _ _ _)
   | (with_reducible exact oriellaw16_alive.mono _)
   | (with_reducible exact orielref16_Fresh.mono _ _ _)
   | (with_reducible exact orielref16_Places.mono _ _ _)
   | (with_reducible exact spell_Fresh.mono _ _ _)
   | (with_reducible exact spell_Places.mono _ _ _)
   | (with_reducible exact LeO.refl _)
   | (with_reducible refine LeO.ite ?_ ?_)
   | (with_reducible refine LeO.bind ?_ (fun _ => ?_))
  ·intro y0 y1 y2 y3 y4 y5 y6 y7 y8 y9
   unfold oriellaw16_SpellTells.l0
   repeat' first
   | (with_reducible exact ih1 _ _ _ _ _ _ _ _ _ _)
   | (with_reducible exact ih2 _ _ _ _ _ _ _ _)
   | (with_reducible exact orielref04_Kind.mono _ _)
   | (with_reducible exact LeO.refl _)
   | (with_reducible refine LeO.ite ?_ ?_)
   | (with_reducible refine LeO.bind ?_ (fun _ => ?_))
  ·intro y0 y1 y2 y3 y4 y5 y6 y7
   unfold oriellaw16_SpellTells.j2
   repeat' first
   | (with_reducible exact oriellaw16_alive.mono _)
   | (with_reducible exact orielref04_Texts.mono _ _ _)
   | (with_reducible exact orielref16_Taken.mono _ _)
   | (with_reducible exact spell_Free.mono _ _ _)
   | (with_reducible exact spell_Taken.mono _ _)
   | (with_reducible exact LeO.refl _)
   | (with_reducible refine LeO.ite ?_ ?_)
   | (with_reducible refine LeO.bind ?_ (fun _ => ?_))
theorem oriellaw16_SpellTells.mono : ∀ a0 a1 k, LeO (oriellaw16_SpellTells.f k a0 a1) (oriellaw16_SpellTells.f (k + 1) a0 a1) := by
 intro a0 a1 k
 obtain ⟨ih0, ih1, ih2⟩ := oriellaw16_SpellTells.mono_l k
 unfold oriellaw16_SpellTells.f
 repeat' first
   | (with_reducible exact ih0 _ _ _)
   | (with_reducible exact orielref10_Few.mono _ _)
   | (with_reducible refine LeO.ite ?_ ?_)
   | (with_reducible refine LeO.bind ?_ (fun _ => ?_))
set_option maxHeartbeats 8000000 in
set_option maxRecDepth 100000 in
theorem oriellaw16_SpellTells.calls (k : Nat) (A0 : Option Addr) (c0 : Nat) (l0 : List (S41)) (a1 : ByteArray) (r : Bool) (w : World) (hr0 : Kd.C k41 w A0 l0.length l0) (hc0 : l0.length ≤ c0) (h : oriellaw16_SpellTells.f k l0 a1 = some r) (htab : Lib.TabIs Tryz.prog w "internal/strconv.uint64pow10" .u64 Lib.pow10Tab) :
  Calls Tryz.prog 3 #[.slice A0 l0.length c0, .string a1] w fun e w' => e = .returned (.bool r) ∧ Below w.heap.size w w' := by
 have HTAB := Aside0.mk htab
 clear htab
 have hu32 := Tryz.underlying32
 have HR0 := Aside0.mk hr0
 have HC0 := Aside0.mk hc0
 clear hr0 hc0
 have HB := Aside0.mk (Below.refl w.heap.size w)
 have H : ((orielref10_Few.f k l0).bind fun t367 => (if t367 = true then (oriellaw16_SpellTells.j0 k l0 a1 (decide ((a1.size : Int) > 100))) else (oriellaw16_SpellTells.j0 k l0 a1 true))) = some r := h
 clear h
 have HC3 := Aside0.mk H
 clear H
 go_enter Tryz.func3, Tryz.ntmps3
 go_upto_region 1 with (fail)
 repeat (go_quiet (fail); go_upto_region 1 with (fail))
 go_cut [21] (fun v21 wc => ∃ (kq : Nat) (x21_2 : Bool), v21 = .bool x21_2 ∧ Aside0 (oriellaw16_SpellTells.j0 kq l0 a1 x21_2 = some r) ∧ Aside0 (kq ≤ k) ∧ Aside0 (Below w.heap.size w wc))
 case first =>
  have H := HC3.out
  clear HC3
  replace H := Option.bind_eq_some_iff.mp H
  obtain ⟨t367, A40, H⟩ := H
  replace H : (if t367 = true then (oriellaw16_SpellTells.j0 k l0 a1 (decide ((a1.size : Int) > 100))) else (oriellaw16_SpellTells.j0 k l0 a1 true)) = some r := H
  have A4 := Aside0.mk A40
  clear A40
  by_cases c5 : t367 = true
  ·subst c5
   have H1 : (oriellaw16_SpellTells.j0 k l0 a1 (decide ((a1.size : Int) > 100))) = some r := by rw [if_pos rfl] at H; exact H
   clear H
   have H := H1
   clear H1
   have H' := Aside0.mk H
   clear H
   go_wp2_with ((go_at_call 4; (with_reducible refine (orielref10_Few.calls k _ _ l0 true _ ?side1 ?side2 A4.out).mono ?_); (case side1 => repeat (exact (Kd.C_below HR0.out HB.out))); (case side2 => exact HC0.out); rintro e w6 ⟨rfl, hb⟩; have n0_ := Aside0.mk (below_step (by repeat (with_reducible exact HB.out)) hb); clear HB; have HB := n0_; clear n0_; (try clear hb); (try clear hb2); (try clear hk); (try clear hi)))
   repeat (go_quiet (fail); try go_wp2_with (fail))
   go_meet
   case rel => exact ⟨_, (decide ((a1.size : Int) > 100)), (by rfl), H', ⟨by omega⟩, ⟨by repeat (with_reducible exact HB.out)⟩⟩
  ·replace c5 := Bool.eq_false_iff.mpr c5
   subst c5
   have H1 : (oriellaw16_SpellTells.j0 k l0 a1 true) = some r := by rw [if_neg (show ¬ (false = true) by decide)] at H; exact H
   clear H
   have H := H1
   clear H1
   have H' := Aside0.mk H
   clear H
   go_wp2_with ((go_at_call 4; (with_reducible refine (orielref10_Few.calls k _ _ l0 false _ ?side1 ?side2 A4.out).mono ?_); (case side1 => repeat (exact (Kd.C_below HR0.out HB.out))); (case side2 => exact HC0.out); rintro e w7 ⟨rfl, hb⟩; have n0_ := Aside0.mk (below_step (by repeat (with_reducible exact HB.out)) hb); clear HB; have HB := n0_; clear n0_; (try clear hb); (try clear hb2); (try clear hk); (try clear hi)))
   repeat (go_quiet (fail); try go_wp2_with (fail))
   go_meet
   case rel => exact ⟨_, (true), (by rfl), H', ⟨by omega⟩, ⟨by repeat (with_reducible exact HB.out)⟩⟩
 case rest =>
  clear HC3
  obtain ⟨kq, x21_2, rfl, HA, HJ2, HB⟩ := hcut
  cases kq with
  | zero => exact absurd HA.out (by simp [oriellaw16_SpellTells.j0])
  | succ kj2 =>
   have H := HA.out
   clear HA
   simp only [oriellaw16_SpellTells.j0] at H
   by_cases c8 : x21_2 = true
   ·subst c8
    have H1 : ((oriellaw16_alive.f kj2).bind fun t368 => (some t368)) = some r := by rw [if_pos rfl] at H; exact H
    clear H
    have H := H1
    clear H1
    replace H := Option.bind_eq_some_iff.mp H
    obtain ⟨t368, A90, H⟩ := H
    replace H : (some t368) = some r := H
    have A9 := Aside0.mk A90
    clear A90
    obtain rfl := Option.some.inj H
    go_wp2_with ((go_at_call 5; (with_reducible refine (oriellaw16_alive.calls kj2  t368 _ A9.out ?htab_).mono ?_); (case htab_ => exact tab_below HTAB.out (by repeat (with_reducible exact HB.out))); rintro e w10 ⟨rfl, hb⟩; have n0_ := Aside0.mk (below_step (by repeat (with_reducible exact HB.out)) hb); clear HB; have HB := n0_; clear n0_; (try clear hb); (try clear hb2); (try clear hk); (try clear hi)))
    repeat (go_quiet (fail); try go_wp2_with (fail))
    go_ret
    exact ⟨by rfl, by repeat (with_reducible exact HB.out)⟩
   ·replace c8 := Bool.eq_false_iff.mpr c8
    subst c8
    have H1 : ((spell_Fresh.f kj2 a1 l0).bind fun bt369 => ((orielref16_Fresh.f kj2 a1 l0).bind fun bt371 => ((spell_Places.f kj2 a1 l0).bind fun t373 => ((orielref16_Places.f kj2 a1 l0).bind fun t376 => (if (t373.length : Int) = (t376.length : Int) then (oriellaw16_SpellTells.l0 kj2 l0 a1 bt369.1 bt369.2 bt371.1 bt371.2 t373 t376 (t373.length : Int) 0) else none))))) = some r := by rw [if_neg (show ¬ (false = true) by decide)] at H; exact H
    clear H
    have H := H1
    clear H1
    replace H := Option.bind_eq_some_iff.mp H
    obtain ⟨⟨t369, t370⟩, A110, H⟩ := H
    replace H : ((orielref16_Fresh.f kj2 a1 l0).bind fun bt371 => ((spell_Places.f kj2 a1 l0).bind fun t373 => ((orielref16_Places.f kj2 a1 l0).bind fun t376 => (if (t373.length : Int) = (t376.length : Int) then (oriellaw16_SpellTells.l0 kj2 l0 a1 t369 t370 bt371.1 bt371.2 t373 t376 (t373.length : Int) 0) else none)))) = some r := H
    have A11 := Aside0.mk A110
    clear A110
    replace H := Option.bind_eq_some_iff.mp H
    obtain ⟨⟨t371, t372⟩, A120, H⟩ := H
    replace H : ((spell_Places.f kj2 a1 l0).bind fun t373 => ((orielref16_Places.f kj2 a1 l0).bind fun t376 => (if (t373.length : Int) = (t376.length : Int) then (oriellaw16_SpellTells.l0 kj2 l0 a1 t369 t370 t371 t372 t373 t376 (t373.length : Int) 0) else none))) = some r := H
    have A12 := Aside0.mk A120
    clear A120
    replace H := Option.bind_eq_some_iff.mp H
    obtain ⟨t373, A130, H⟩ := H
    replace H : ((orielref16_Places.f kj2 a1 l0).bind fun t376 => (if (t373.length : Int) = (t376.length : Int) then (oriellaw16_SpellTells.l0 kj2 l0 a1 t369 t370 t371 t372 t373 t376 (t373.length : Int) 0) else none)) = some r := H
    have A13 := Aside0.mk A130
    clear A130
    replace H := Option.bind_eq_some_iff.mp H
    obtain ⟨t376, A140, H⟩ := H
    replace H : (if (t373.length : Int) = (t376.length : Int) then (oriellaw16_SpellTells.l0 kj2 l0 a1 t369 t370 t371 t372 t373 t376 (t373.length : Int) 0) else none) = some r := H
    have A14 := Aside0.mk A140
    clear A140
    by_cases c15 : (t373.length : Int) = (t376.length : Int)
    ·rw [if_pos c15] at H
     have c15b0 : ((t373.length : Int) == (t376.length : Int)) = true := beq_iff_eq.mpr c15
     have c15b1 : ((t373.length : Int) != (t376.length : Int)) = false := bne_eq_false_iff_eq.mpr c15
     have c15b2 : (t373.length == t376.length) = true := by (simp at c15 ⊢; omega)
     clear c15
     have H' := Aside0.mk H
     clear H
     go_wp2_with (first | (go_at_call 6; (with_reducible refine (spell_Fresh.calls kj2 a1 _ _ l0 t369 t370 _ ?side1 ?side2 A11.out ?htab_).mono ?_); (case htab_ => exact tab_below HTAB.out (by repeat (with_reducible exact HB.out))); (case side1 => repeat (exact (Kd.C_below HR0.out HB.out))); (case side2 => exact HC0.out); rintro e w16 ⟨rfl, hb⟩; have n0_ := Aside0.mk (below_step (by repeat (with_reducible exact HB.out)) hb); clear HB; have HB := n0_; clear n0_; (try clear hb); (try clear hb2); (try clear hk); (try clear hi)) | (go_at_call 7; (with_reducible refine (orielref16_Fresh.calls kj2 a1 _ _ l0 t371 t372 _ ?side1 ?side2 A12.out).mono ?_); (case side1 => repeat (exact (Kd.C_below HR0.out HB.out))); (case side2 => exact HC0.out); rintro e w17 ⟨rfl, hb⟩; have n0_ := Aside0.mk (below_step (by repeat (with_reducible exact HB.out)) hb); clear HB; have HB := n0_; clear n0_; (try clear hb); (try clear hb2); (try clear hk); (try clear hi)) | (go_at_call 8; (with_reducible refine (spell_Places.calls kj2 a1 _ _ l0 t373 _ ?side1 ?side2 A13.out).mono ?_); (case side1 => repeat (exact (Kd.C_below HR0.out HB.out))); (case side2 => exact HC0.out); rintro e w18 ⟨v374, rfl, ho0, hb⟩; have n0_ := Aside0.mk (Kd.R_lower ho0 (below_size (by repeat (with_reducible exact HB.out)))); have n1_ := Aside0.mk (below_step (by repeat (with_reducible exact HB.out)) hb); clear HB; have HO375 := n0_; have HB := n1_; clear n0_ n1_; (try clear hb); (try clear hb2); (try clear hk); (try clear hi); (try clear ho0)) | (go_at_call 9; (with_reducible refine (orielref16_Places.calls kj2 a1 _ _ l0 t376 _ ?side1 ?side2 A14.out).mono ?_); (case side1 => repeat (exact (Kd.C_below HR0.out HB.out))); (case side2 => exact HC0.out); rintro e w19 ⟨v377, rfl, ho0, hb⟩; have n0_ := Aside0.mk (Kd.R_elder' (by (with_reducible repeat (fail)); exact HO375.out) (Kd.R_base ho0) hb); have n1_ := Aside0.mk (Kd.R_lower (Kd.R_new' ho0 (Kd.R_lt (by (with_reducible repeat (fail)); exact HO375.out))) (below_size (by repeat (with_reducible exact HB.out)))); have n2_ := Aside0.mk (below_step (by repeat (with_reducible exact HB.out)) hb); clear HO375; clear HB; have HO375 := n0_; have HO378 := n1_; have HB := n2_; clear n0_ n1_ n2_; (try clear hb); (try clear hb2); (try clear hk); (try clear hi); (try clear ho0); obtain ⟨Ao20, co20, eo20⟩ := Kd.R_slice HO375.out; subst eo20; obtain ⟨Ao21, co21, eo21⟩ := Kd.R_slice HO378.out; subst eo21))
     repeat (go_quiet (fail); try go_wp2_with (fail))
     go_loopg [48] kj2 (fun kq v48 w' => ∃ (x48_2 : Int), v48 = .int .i64 x48_2 ∧ Aside0 (oriellaw16_SpellTells.l0 kq l0 a1 t369 t370 t371 t372 t373 t376 (t373.length : Int) x48_2 = some r) ∧ Aside0 (kq ≤ kj2) ∧ Aside0 (Kd.R k32 32 w' w.heap.size (fun k_ => some k_ ≠ ((.slice Ao21 t376.length co21) : Value).ownBlock) (.slice Ao20 t373.length co20) t373) ∧ Aside0 (Kd.R k32 32 w' w.heap.size (fun k_ => some k_ ≠ ((.slice Ao20 t373.length co20) : Value).ownBlock) (.slice Ao21 t376.length co21) t376) ∧ Aside0 (Below w.heap.size w w'))
     case atStart => exact ⟨(0), (by rfl), H', ⟨Nat.le_refl _⟩, ⟨by (with_reducible repeat (fail)); exact Kd.R_mono HO375.out (fun _ hk => hk.2)⟩, ⟨by (with_reducible repeat (fail)); exact Kd.R_mono HO378.out (fun _ hk => hk.2)⟩, ⟨by repeat (with_reducible exact HB.out)⟩⟩
     case round =>
      clear H'
      clear c15b0 c15b1 c15b2
      obtain ⟨x48_2, rfl, HA, HK2, HO_9, HO_10, HB⟩ := hrel
      cases gk with
      | zero => exact absurd HA.out (by simp [oriellaw16_SpellTells.l0])
      | succ k2 =>
       have H := HA.out
       clear HA
       simp only [oriellaw16_SpellTells.l0] at H
       by_cases c22 : x48_2 < (t373.length : Int)
       ·rw [if_pos c22] at H
        have c22b0 : decide (x48_2 < (t373.length : Int)) = true := decide_eq_true c22
        clear c22
        by_cases c23 : 0 ≤ x48_2
        ·rw [if_pos c23] at H
         have c23b0 : decide (0 ≤ x48_2) = true := decide_eq_true c23
         clear c23
         by_cases c24 : x48_2 < (t373.length : Int)
         ·rw [if_pos c24] at H
          have c24b0 : decide (x48_2 < (t373.length : Int)) = true := decide_eq_true c24
          clear c24
          by_cases c25 : x48_2 < (t376.length : Int)
          ·rw [if_pos c25] at H
           have c25b0 : decide (x48_2 < (t376.length : Int)) = true := decide_eq_true c25
           clear c25
           by_cases c26 : (!(((rd_T32 t373 x48_2).f0) == ((rd_T32 t376 x48_2).f0)) || (!(((rd_T32 t373 x48_2).f1) == ((rd_T32 t376 x48_2).f1)))) = true
           ·rw [if_pos c26] at H
            cases H
           ·rw [if_neg c26] at H
            have c26b0 : (!(((rd_T32 t373 x48_2).f0) == ((rd_T32 t376 x48_2).f0)) || (!(((rd_T32 t373 x48_2).f1) == ((rd_T32 t376 x48_2).f1)))) = false := by simpa using c26
            clear c26
            have H' := Aside0.mk H
            clear H
            have p379 : 0 ≤ (x48_2 : Int) := of_decide_eq_true (by with_reducible assumption)
            have q379 : x48_2 < (t373.length : Int) := of_decide_eq_true (by with_reducible assumption)
            obtain ⟨ad379, e379, hx379_0, hx379_1⟩ := at_T32 (Kd.R_reads' HO_9.out).2.2 x48_2 p379 q379
            cases e379
            replace p379 := eq_true p379
            replace q379 := eq_true q379
            have p380 : 0 ≤ (x48_2 : Int) := of_decide_eq_true (by with_reducible assumption)
            have q380 : x48_2 < (t376.length : Int) := of_decide_eq_true (by with_reducible assumption)
            obtain ⟨ad380, e380, hx380_0, hx380_1⟩ := at_T32 (Kd.R_reads' HO_10.out).2.2 x48_2 p380 q380
            cases e380
            replace p380 := eq_true p380
            replace q380 := eq_true q380
            go_wp2
            repeat (go_quiet (fail); try go_wp2)
            go_roundg k2
            case measure => have := HJ2.out; have := HK2.out; omega
            case rel => exact ⟨(wrap64 (x48_2 + 1)), (by rfl), H', ⟨by have := HJ2.out; have := HK2.out; omega⟩, ⟨by (with_reducible repeat (apply Kd.R_drewN)); exact HO_9.out⟩, ⟨by (with_reducible repeat (apply Kd.R_drewN)); exact HO_10.out⟩, ⟨by repeat ((with_reducible first | exact HB.out | apply pw_below_drewN ))⟩⟩
          ·rw [if_neg c25] at H
           cases H
         ·rw [if_neg c24] at H
          cases H
        ·rw [if_neg c23] at H
         cases H
       ·rw [if_neg c22] at H
        have c22b0 : decide (x48_2 < (t373.length : Int)) = false := decide_eq_false c22
        clear c22
        replace H := Option.bind_eq_some_iff.mp H
        obtain ⟨t381, A270, H⟩ := H
        replace H : (if t381 = 6 then (oriellaw16_SpellTells.j2 k2 l0 a1 t369 t370 t371 t372 t376 true) else (if t381 = 7 then (oriellaw16_SpellTells.j2 k2 l0 a1 t369 t370 t371 t372 t376 true) else (oriellaw16_SpellTells.j2 k2 l0 a1 t369 t370 t371 t372 t376 (t381 == 9)))) = some r := H
        have A27 := Aside0.mk A270
        clear A270
        have HC28 := Aside0.mk H
        clear H
        go_upto_region 15 with ((go_at_call 10; (with_reducible refine (orielref04_Kind.calls k2 a1 t381 _ A27.out).mono ?_); rintro e w29 ⟨rfl, hb⟩; have n0_ := Aside0.mk (Kd.R_below (by (with_reducible repeat (fail)); exact HO_9.out) hb); have n1_ := Aside0.mk (Kd.R_below (by (with_reducible repeat (fail)); exact HO_10.out) hb); have n2_ := Aside0.mk (below_step (by repeat (with_reducible exact HB.out)) hb); clear HO_9; clear HO_10; clear HB; have HO_9 := n0_; have HO_10 := n1_; have HB := n2_; clear n0_ n1_ n2_; (try clear hb); (try clear hb2); (try clear hk); (try clear hi)))
        repeat (go_quiet (fail); go_upto_region 15 with (fail))
        (try simp only [Act.put, List.setIfInBounds_toArray, List.set_cons_zero, List.set_cons_succ])
        go_cut [13] (fun v13 wc => ∃ (kq : Nat) (x13_27 : Bool), v13 = .bool x13_27 ∧ Aside0 (oriellaw16_SpellTells.j2 kq l0 a1 t369 t370 t371 t372 t376 x13_27 = some r) ∧ Aside0 (kq ≤ k2) ∧ Aside0 (Kd.R k32 32 wc w.heap.size (fun _ => True) (.slice Ao21 t376.length co21) t376) ∧ Aside0 (Below w.heap.size w wc))
        case first =>
         have H := HC28.out
         clear HC28
         by_cases c30 : t381 = 6
         ·rw [if_pos c30] at H
          have c30b0 : (t381 == 6) = true := beq_iff_eq.mpr c30
          have c30b1 : (t381 != 6) = false := bne_eq_false_iff_eq.mpr c30
          clear c30
          (skip)
          have H' := Aside0.mk H
          clear H
          go_wp2
          repeat (go_quiet (fail); try go_wp2)
          go_meet
          case rel => exact ⟨_, (true), (by rfl), H', ⟨by have := HJ2.out; have := HK2.out; omega⟩, ⟨by (with_reducible repeat (fail)); exact Kd.R_mono HO_10.out (fun _ hk => trivial)⟩, ⟨by repeat (with_reducible exact HB.out)⟩⟩
         ·rw [if_neg c30] at H
          have c30b0 : (t381 == 6) = false := beq_eq_false_iff_ne.mpr c30
          have c30b1 : (t381 != 6) = true := bne_iff_ne.mpr c30
          (skip)
          by_cases c31 : t381 = 7
          ·rw [if_pos c31] at H
           have c31b0 : (t381 == 7) = true := beq_iff_eq.mpr c31
           have c31b1 : (t381 != 7) = false := bne_eq_false_iff_eq.mpr c31
           clear c31
           have H' := Aside0.mk H
           clear H
           go_wp2
           repeat (go_quiet (fail); try go_wp2)
           go_meet
           case rel => exact ⟨_, (true), (by rfl), H', ⟨by have := HJ2.out; have := HK2.out; omega⟩, ⟨by (with_reducible repeat (fail)); exact Kd.R_mono HO_10.out (fun _ hk => trivial)⟩, ⟨by repeat (with_reducible exact HB.out)⟩⟩
          ·rw [if_neg c31] at H
           have c31b0 : (t381 == 7) = false := beq_eq_false_iff_ne.mpr c31
           have c31b1 : (t381 != 7) = true := bne_iff_ne.mpr c31
           have H' := Aside0.mk H
           clear H
           go_wp2
           repeat (go_quiet (fail); try go_wp2)
           go_meet
           case rel => exact ⟨_, ((t381 == 9)), (by rfl), H', ⟨by have := HJ2.out; have := HK2.out; omega⟩, ⟨by (with_reducible repeat (fail)); exact Kd.R_mono HO_10.out (fun _ hk => trivial)⟩, ⟨by repeat (with_reducible exact HB.out)⟩⟩
        case rest =>
         clear HC28
         clear c22b0
         obtain ⟨kq, x13_27, rfl, HA, HJ27, HO_10, HB⟩ := hcut
         cases kq with
         | zero => exact absurd HA.out (by simp [oriellaw16_SpellTells.j2])
         | succ kj27 =>
          have H := HA.out
          clear HA
          simp only [oriellaw16_SpellTells.j2] at H
          by_cases c32 : t369.toList = t371.toList
          ·rw [if_pos c32] at H
           have c32b0 : (t369.toList == t371.toList) = true := beq_iff_eq.mpr c32
           have c32b1 : (t369.toList != t371.toList) = false := bne_eq_false_iff_eq.mpr c32
           clear c32
           by_cases c33 : (t370 == t372) = true
           ·rw [if_pos c33] at H
            have c33b0 : (t370 == t372) = true := c33
            (try (have c33b1 : decide (t370 = t372) = true := by simpa using c33))
            (try (have c33b2 : (t370 == t372) = true := by simpa using c33))
            clear c33
            replace H := Option.bind_eq_some_iff.mp H
            obtain ⟨t382, A340, H⟩ := H
            replace H : ((orielref16_Taken.f kj27 l0).bind fun t385 => ((orielref04_Texts.f kj27 t382 t385).bind fun t388 => (if t388 = true then ((spell_Free.f kj27 a1 l0).bind fun t389 => (if x13_27 = true then (if (t389 == ((t376.length : Int) == 0)) = true then ((oriellaw16_alive.f kj27).bind fun t390 => (some t390)) else none) else (if (t389 == false) = true then ((oriellaw16_alive.f kj27).bind fun t391 => (some t391)) else none))) else none))) = some r := H
            have A34 := Aside0.mk A340
            clear A340
            replace H := Option.bind_eq_some_iff.mp H
            obtain ⟨t385, A350, H⟩ := H
            replace H : ((orielref04_Texts.f kj27 t382 t385).bind fun t388 => (if t388 = true then ((spell_Free.f kj27 a1 l0).bind fun t389 => (if x13_27 = true then (if (t389 == ((t376.length : Int) == 0)) = true then ((oriellaw16_alive.f kj27).bind fun t390 => (some t390)) else none) else (if (t389 == false) = true then ((oriellaw16_alive.f kj27).bind fun t391 => (some t391)) else none))) else none)) = some r := H
            have A35 := Aside0.mk A350
            clear A350
            replace H := Option.bind_eq_some_iff.mp H
            obtain ⟨t388, A360, H⟩ := H
            replace H : (if t388 = true then ((spell_Free.f kj27 a1 l0).bind fun t389 => (if x13_27 = true then (if (t389 == ((t376.length : Int) == 0)) = true then ((oriellaw16_alive.f kj27).bind fun t390 => (some t390)) else none) else (if (t389 == false) = true then ((oriellaw16_alive.f kj27).bind fun t391 => (some t391)) else none))) else none) = some r := H
            have A36 := Aside0.mk A360
            clear A360
            by_cases c37 : t388 = true
            ·subst c37
             have H1 : ((spell_Free.f kj27 a1 l0).bind fun t389 => (if x13_27 = true then (if (t389 == ((t376.length : Int) == 0)) = true then ((oriellaw16_alive.f kj27).bind fun t390 => (some t390)) else none) else (if (t389 == false) = true then ((oriellaw16_alive.f kj27).bind fun t391 => (some t391)) else none))) = some r := by rw [if_pos rfl] at H; exact H
             clear H
             have H := H1
             clear H1
             replace H := Option.bind_eq_some_iff.mp H
             obtain ⟨t389, A380, H⟩ := H
             replace H : (if x13_27 = true then (if (t389 == ((t376.length : Int) == 0)) = true then ((oriellaw16_alive.f kj27).bind fun t390 => (some t390)) else none) else (if (t389 == false) = true then ((oriellaw16_alive.f kj27).bind fun t391 => (some t391)) else none)) = some r := H
             have A38 := Aside0.mk A380
             clear A380
             by_cases c39 : x13_27 = true
             ·subst c39
              have H1 : (if (t389 == ((t376.length : Int) == 0)) = true then ((oriellaw16_alive.f kj27).bind fun t390 => (some t390)) else none) = some r := by rw [if_pos rfl] at H; exact H
              clear H
              have H := H1
              clear H1
              by_cases c40 : (t389 == ((t376.length : Int) == 0)) = true
              ·rw [if_pos c40] at H
               have c40b0 : (t389 == ((t376.length : Int) == 0)) = true := c40
               (try (have c40b1 : decide (t389 = ((t376.length : Int) == 0)) = true := by simpa using c40))
               (try (have c40b2 : (t389 == ((t376.length : Int) == 0)) = true := by simpa using c40))
               clear c40
               replace H := Option.bind_eq_some_iff.mp H
               obtain ⟨t390, A410, H⟩ := H
               replace H : (some t390) = some r := H
               have A41 := Aside0.mk A410
               clear A410
               obtain rfl := Option.some.inj H
               go_wp2_with (first | (go_at_call 12; (with_reducible refine (spell_Taken.calls kj27 _ _ l0 t382 _ ?side1 ?side2 A34.out).mono ?_); (case side1 => repeat (exact (Kd.C_below HR0.out HB.out))); (case side2 => exact HC0.out); rintro e w42 ⟨v383, rfl, ho0, hb⟩; have n0_ := Aside0.mk (Kd.R_below (by (with_reducible repeat (fail)); exact HO_10.out) hb); have n1_ := Aside0.mk (Kd.R_lower ho0 (below_size (by repeat (with_reducible exact HB.out)))); have n2_ := Aside0.mk (below_step (by repeat (with_reducible exact HB.out)) hb); clear HO_10; clear HB; have HO_10 := n0_; have HO384 := n1_; have HB := n2_; clear n0_ n1_ n2_; (try clear hb); (try clear hb2); (try clear hk); (try clear hi); (try clear ho0)) | (go_at_call 13; (with_reducible refine (orielref16_Taken.calls kj27 _ _ l0 t385 _ ?side1 ?side2 A35.out).mono ?_); (case side1 => repeat (exact (Kd.C_below HR0.out HB.out))); (case side2 => exact HC0.out); rintro e w43 ⟨v386, rfl, ho0, hb⟩; have n0_ := Aside0.mk (Kd.R_below (by (with_reducible repeat (fail)); exact HO_10.out) hb); have n1_ := Aside0.mk (Kd.R_elder' (by (with_reducible repeat (fail)); exact HO384.out) (Kd.R_base ho0) hb); have n2_ := Aside0.mk (Kd.R_lower (Kd.R_new' ho0 (Kd.R_lt (by (with_reducible repeat (fail)); exact HO384.out))) (below_size (by repeat (with_reducible exact HB.out)))); have n3_ := Aside0.mk (below_step (by repeat (with_reducible exact HB.out)) hb); clear HO_10; clear HO384; clear HB; have HO_10 := n0_; have HO384 := n1_; have HO387 := n2_; have HB := n3_; clear n0_ n1_ n2_ n3_; (try clear hb); (try clear hb2); (try clear hk); (try clear hi); (try clear ho0); obtain ⟨Ao44, co44, eo44⟩ := Kd.R_slice HO384.out; subst eo44; obtain ⟨Ao45, co45, eo45⟩ := Kd.R_slice HO387.out; subst eo45) | (go_at_call 11; (with_reducible refine (orielref04_Texts.calls kj27 _ _ t382 _ _ t385 true _ ?side1 ?side2 ?side3 ?side4 A36.out).mono ?_); (case side1 => repeat (exact (Kd.R_reads' HO384.out).2.2)); (case side2 => exact (Kd.R_reads' HO384.out).2.1); (case side3 => repeat (exact (Kd.R_reads' HO387.out).2.2)); (case side4 => exact (Kd.R_reads' HO387.out).2.1); rintro e w' ⟨rfl, ⟨nd, rfl⟩⟩; (try fail)) | (go_at_call 14; (with_reducible refine (spell_Free.calls kj27 a1 _ _ l0 t389 _ ?side1 ?side2 A38.out).mono ?_); (case side1 => repeat (exact (Kd.C_below HR0.out (by repeat ((with_reducible first | exact HB.out | apply pw_below_drewN )))))); (case side2 => exact HC0.out); rintro e w46 ⟨rfl, hb⟩; have n0_ := Aside0.mk (Kd.R_below (by (with_reducible repeat (apply Kd.R_drewN)); exact HO_10.out) hb); have n1_ := Aside0.mk (Kd.R_below (by (with_reducible repeat (apply Kd.R_drewN)); exact HO384.out) hb); have n2_ := Aside0.mk (Kd.R_below (by (with_reducible repeat (apply Kd.R_drewN)); exact HO387.out) hb); have n3_ := Aside0.mk (below_step (by repeat ((with_reducible first | exact HB.out | apply pw_below_drewN ))) hb); clear HO_10; clear HO384; clear HO387; clear HB; have HO_10 := n0_; have HO384 := n1_; have HO387 := n2_; have HB := n3_; clear n0_ n1_ n2_ n3_; (try clear hb); (try clear hb2); (try clear hk); (try clear hi)) | (go_at_call 5; (with_reducible refine (oriellaw16_alive.calls kj27  t390 _ A41.out ?htab_).mono ?_); (case htab_ => exact tab_below HTAB.out (by repeat (with_reducible exact HB.out))); rintro e w47 ⟨rfl, hb⟩; have n0_ := Aside0.mk (Kd.R_below (by (with_reducible repeat (fail)); exact HO_10.out) hb); have n1_ := Aside0.mk (Kd.R_below (by (with_reducible repeat (fail)); exact HO384.out) hb); have n2_ := Aside0.mk (Kd.R_below (by (with_reducible repeat (fail)); exact HO387.out) hb); have n3_ := Aside0.mk (below_step (by repeat (with_reducible exact HB.out)) hb); clear HO_10; clear HO384; clear HO387; clear HB; have HO_10 := n0_; have HO384 := n1_; have HO387 := n2_; have HB := n3_; clear n0_ n1_ n2_ n3_; (try clear hb); (try clear hb2); (try clear hk); (try clear hi)))
               repeat (go_quiet (fail); try go_wp2_with (fail))
               go_ret
               exact ⟨by rfl, by repeat (with_reducible exact HB.out)⟩
              ·rw [if_neg c40] at H
               cases H
             ·replace c39 := Bool.eq_false_iff.mpr c39
              subst c39
              have H1 : (if (t389 == false) = true then ((oriellaw16_alive.f kj27).bind fun t391 => (some t391)) else none) = some r := by rw [if_neg (show ¬ (false = true) by decide)] at H; exact H
              clear H
              have H := H1
              clear H1
              by_cases c53 : (t389 == false) = true
              ·rw [if_pos c53] at H
               have c53b0 : (t389 == false) = true := c53
               (try (have c53b1 : decide (t389 = false) = true := by simpa using c53))
               (try (have c53b2 : (t389 == false) = true := by simpa using c53))
               clear c53
               replace H := Option.bind_eq_some_iff.mp H
               obtain ⟨t391, A540, H⟩ := H
               replace H : (some t391) = some r := H
               have A54 := Aside0.mk A540
               clear A540
               obtain rfl := Option.some.inj H
               go_wp2_with (first | (go_at_call 12; (with_reducible refine (spell_Taken.calls kj27 _ _ l0 t382 _ ?side1 ?side2 A34.out).mono ?_); (case side1 => repeat (exact (Kd.C_below HR0.out HB.out))); (case side2 => exact HC0.out); rintro e w55 ⟨v383, rfl, ho0, hb⟩; have n0_ := Aside0.mk (Kd.R_below (by (with_reducible repeat (fail)); exact HO_10.out) hb); have n1_ := Aside0.mk (Kd.R_lower ho0 (below_size (by repeat (with_reducible exact HB.out)))); have n2_ := Aside0.mk (below_step (by repeat (with_reducible exact HB.out)) hb); clear HO_10; clear HB; have HO_10 := n0_; have HO384 := n1_; have HB := n2_; clear n0_ n1_ n2_; (try clear hb); (try clear hb2); (try clear hk); (try clear hi); (try clear ho0)) | (go_at_call 13; (with_reducible refine (orielref16_Taken.calls kj27 _ _ l0 t385 _ ?side1 ?side2 A35.out).mono ?_); (case side1 => repeat (exact (Kd.C_below HR0.out HB.out))); (case side2 => exact HC0.out); rintro e w56 ⟨v386, rfl, ho0, hb⟩; have n0_ := Aside0.mk (Kd.R_below (by (with_reducible repeat (fail)); exact HO_10.out) hb); have n1_ := Aside0.mk (Kd.R_elder' (by (with_reducible repeat (fail)); exact HO384.out) (Kd.R_base ho0) hb); have n2_ := Aside0.mk (Kd.R_lower (Kd.R_new' ho0 (Kd.R_lt (by (with_reducible repeat (fail)); exact HO384.out))) (below_size (by repeat (with_reducible exact HB.out)))); have n3_ := Aside0.mk (below_step (by repeat (with_reducible exact HB.out)) hb); clear HO_10; clear HO384; clear HB; have HO_10 := n0_; have HO384 := n1_; have HO387 := n2_; have HB := n3_; clear n0_ n1_ n2_ n3_; (try clear hb); (try clear hb2); (try clear hk); (try clear hi); (try clear ho0); obtain ⟨Ao57, co57, eo57⟩ := Kd.R_slice HO384.out; subst eo57; obtain ⟨Ao58, co58, eo58⟩ := Kd.R_slice HO387.out; subst eo58) | (go_at_call 11; (with_reducible refine (orielref04_Texts.calls kj27 _ _ t382 _ _ t385 true _ ?side1 ?side2 ?side3 ?side4 A36.out).mono ?_); (case side1 => repeat (exact (Kd.R_reads' HO384.out).2.2)); (case side2 => exact (Kd.R_reads' HO384.out).2.1); (case side3 => repeat (exact (Kd.R_reads' HO387.out).2.2)); (case side4 => exact (Kd.R_reads' HO387.out).2.1); rintro e w' ⟨rfl, ⟨nd, rfl⟩⟩; (try fail)) | (go_at_call 14; (with_reducible refine (spell_Free.calls kj27 a1 _ _ l0 t389 _ ?side1 ?side2 A38.out).mono ?_); (case side1 => repeat (exact (Kd.C_below HR0.out (by repeat ((with_reducible first | exact HB.out | apply pw_below_drewN )))))); (case side2 => exact HC0.out); rintro e w59 ⟨rfl, hb⟩; have n0_ := Aside0.mk (Kd.R_below (by (with_reducible repeat (apply Kd.R_drewN)); exact HO_10.out) hb); have n1_ := Aside0.mk (Kd.R_below (by (with_reducible repeat (apply Kd.R_drewN)); exact HO384.out) hb); have n2_ := Aside0.mk (Kd.R_below (by (with_reducible repeat (apply Kd.R_drewN)); exact HO387.out) hb); have n3_ := Aside0.mk (below_step (by repeat ((with_reducible first | exact HB.out | apply pw_below_drewN ))) hb); clear HO_10; clear HO384; clear HO387; clear HB; have HO_10 := n0_; have HO384 := n1_; have HO387 := n2_; have HB := n3_; clear n0_ n1_ n2_ n3_; (try clear hb); (try clear hb2); (try clear hk); (try clear hi)) | (go_at_call 5; (with_reducible refine (oriellaw16_alive.calls kj27  t391 _ A54.out ?htab_).mono ?_); (case htab_ => exact tab_below HTAB.out (by repeat (with_reducible exact HB.out))); rintro e w60 ⟨rfl, hb⟩; have n0_ := Aside0.mk (Kd.R_below (by (with_reducible repeat (fail)); exact HO_10.out) hb); have n1_ := Aside0.mk (Kd.R_below (by (with_reducible repeat (fail)); exact HO384.out) hb); have n2_ := Aside0.mk (Kd.R_below (by (with_reducible repeat (fail)); exact HO387.out) hb); have n3_ := Aside0.mk (below_step (by repeat (with_reducible exact HB.out)) hb); clear HO_10; clear HO384; clear HO387; clear HB; have HO_10 := n0_; have HO384 := n1_; have HO387 := n2_; have HB := n3_; clear n0_ n1_ n2_ n3_; (try clear hb); (try clear hb2); (try clear hk); (try clear hi)))
               repeat (go_quiet (fail); try go_wp2_with (fail))
               go_ret
               exact ⟨by rfl, by repeat (with_reducible exact HB.out)⟩
              ·rw [if_neg c53] at H
               cases H
            ·replace c37 := Bool.eq_false_iff.mpr c37
             subst c37
             have H1 : none = some r := by rw [if_neg (show ¬ (false = true) by decide)] at H; exact H
             cases H1
           ·rw [if_neg c33] at H
            cases H
          ·rw [if_neg c32] at H
           cases H
    ·rw [if_neg c15] at H
     cases H
end Go.Proofs.YtfccifekaokibaaGreatDoor.QT

