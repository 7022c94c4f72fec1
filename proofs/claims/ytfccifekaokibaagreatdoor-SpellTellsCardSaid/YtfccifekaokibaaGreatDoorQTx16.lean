-- Laid by this claim's own program (mprint.py in the repo).
import Derived.Test.YtfccifekaokibaaGreatDoorQTx0
import Derived.Sort.Walk0
import Derived.Test.YtfccifekaokibaaGreatDoorQTx12
import Derived.Test.YtfccifekaokibaaGreatDoorQTx15
namespace Go.Proofs.YtfccifekaokibaaGreatDoor.QT
open Go.RowKit Go.Proofs.YtfccifekaokibaaGreatDoorW.PrintWords Go.Proofs.YtfccifekaokibaaGreatDoorW.PrintLast Go.Proofs.YtfccifekaokibaaGreatDoorW.PrintMore
attribute [local go_sem] max2_int min2_int max_two min_two max_three min_three max_four min_four   -- for this text's walks alone
set_option linter.unusedVariables false
set_option linter.unusedSimpArgs false

/-! ### orielref05_Scan: function 47 -/
def orielref05_Scan.l0 : Nat → ByteArray → List (S51) → Int → Int → Option ((List (S51)))
 | 0, _, _, _, _ => none
 | k + 1, x0, x3, x4, x5 => if x5 ≤ (x0.size : Int) then (if x4 < (x0.size : Int) then ((orielref05_Next.f k x0 x4).bind fun bt229 => (if x3.length < 5864062014805 then (orielref05_Scan.l0 k x0 (x3 ++ [(⟨bt229.1, bt229.2.1, bt229.2.2⟩ : S51)]) bt229.2.2 (wrap64 (x5 + 1))) else (none))) else (if x3.length < 5864062014805 then (some (x3 ++ [(⟨0, (x0.size : Int), (x0.size : Int)⟩ : S51)])) else (none))) else (if x3.length < 5864062014805 then (some (x3 ++ [(⟨0, (x0.size : Int), (x0.size : Int)⟩ : S51)])) else (none))
def orielref05_Scan.f (k : Nat) (a0 : ByteArray) : Option ((List (S51))) := orielref05_Scan.l0 k a0 ([] : List (S51)) 0 0
theorem orielref05_Scan.mono_l : ∀ k, (∀ y0 y1 y2 y3, LeO (orielref05_Scan.l0 k y0 y1 y2 y3) (orielref05_Scan.l0 (k + 1) y0 y1 y2 y3))
 | 0 => fun _ _ _ _ r h => by simp [orielref05_Scan.l0] at h
 | k + 1 => by
  have ih0 := orielref05_Scan.mono_l k
  ·intro y0 y1 y2 y3
   unfold orielref05_Scan.l0
   repeat' first
   | (with_reducible exact ih0 _ _ _ _)
   | (with_reducible exact orielref05_Next.mono _ _ _)
   | (with_reducible exact LeO.refl _)
   | (with_reducible refine LeO.ite ?_ ?_)
   | (with_reducible refine LeO.bind ?_ (fun _ => ?_))
theorem orielref05_Scan.mono : ∀ a0 k, LeO (orielref05_Scan.f k a0) (orielref05_Scan.f (k + 1) a0) := by
 intro a0 k
 have ih0 := orielref05_Scan.mono_l k
 unfold orielref05_Scan.f
 repeat' with_reducible exact ih0 _ _ _ _
set_option maxHeartbeats 8000000 in
set_option maxRecDepth 100000 in
theorem orielref05_Scan.calls (k : Nat) (a0 : ByteArray) (r : List (S51)) (w : World) (h : orielref05_Scan.f k a0 = some r) :
  Calls Tryz.prog 47 #[.string a0] w fun e w' => ∃ v0_ : Value, e = .returned (v0_) ∧ Kd.R k51 51 w' w.heap.size (fun _ => True) v0_ r ∧ Below w.heap.size w w' := by
 have hu51 := Tryz.underlying51
 have HB := Aside0.mk (Below.refl w.heap.size w)
 have H : (orielref05_Scan.l0 k a0 ([] : List (S51)) 0 0) = some r := h
 clear h
 have H' := Aside0.mk H
 clear H
 go_enter Tryz.func47, Tryz.ntmps47
 go_wp2
 go_loopg [3, 4, 5] k (fun kq v3 v4 v5 w' => ∃ (x3_1 : List (S51)) (x4_1 : Int) (x5_1 : Int), v4 = .int .i64 x4_1 ∧ v5 = .int .i64 x5_1 ∧ Aside0 (orielref05_Scan.l0 kq a0 x3_1 x4_1 x5_1 = some r) ∧ Aside0 (kq ≤ k) ∧ Aside0 (Kd.R k51 51 w' w.heap.size (fun _ => True) v3 x3_1) ∧ Aside0 (Below w.heap.size w w'))
 case atStart => exact ⟨(([] : List (S51))), (0), (0), (by rfl), (by rfl), H', ⟨Nat.le_refl _⟩, ⟨by exact Kd.R_nil _ _ _ _ _⟩, ⟨by repeat (with_reducible exact HB.out)⟩⟩
 case round =>
  clear H'
  obtain ⟨x3_1, x4_1, x5_1, rfl, rfl, HA, HK1, HO_3, HB⟩ := hrel
  cases gk with
  | zero => exact absurd HA.out (by simp [orielref05_Scan.l0])
  | succ k1 =>
   have H := HA.out
   clear HA
   simp only [orielref05_Scan.l0] at H
   by_cases c2 : x5_1 ≤ (a0.size : Int)
   ·rw [if_pos c2] at H
    have c2b0 : decide (x5_1 ≤ (a0.size : Int)) = true := decide_eq_true c2
    clear c2
    by_cases c3 : x4_1 < (a0.size : Int)
    ·rw [if_pos c3] at H
     have c3b0 : decide (x4_1 < (a0.size : Int)) = true := decide_eq_true c3
     clear c3
     replace H := Option.bind_eq_some_iff.mp H
     obtain ⟨⟨t229, t230, t231⟩, A40, H⟩ := H
     replace H : (if x3_1.length < 5864062014805 then (orielref05_Scan.l0 k1 a0 (x3_1 ++ [(⟨t229, t230, t231⟩ : S51)]) t231 (wrap64 (x5_1 + 1))) else (none)) = some r := H
     have A4 := Aside0.mk A40
     clear A40
     by_cases c5 : x3_1.length < 5864062014805
     ·rw [if_pos c5] at H
      have LMc5 := Aside0.mk c5
      clear c5
      obtain ⟨y233, hy233⟩ : ∃ y_ : List (S51), y_ = (x3_1 ++ [(⟨t229, t230, t231⟩ : S51)]) := ⟨_, rfl⟩
      replace H : (orielref05_Scan.l0 k1 a0 y233 t231 (wrap64 (x5_1 + 1))) = some r := by (rw [hy233]; with_reducible exact H)
      have Ny233 := Aside0.mk hy233
      clear hy233
      have H' := Aside0.mk H
      clear H
      go_wp2_with (first | ((with_reducible refine gate_callee (f := 60) rfl ?_); refine goesL_ (some 21) rfl rfl Tryz.func60 (by kernel_rfl) rfl #[.string a0, .int .i64 x4_1] rfl (by (try simp only [List.map_toArray, List.map_cons, List.map_nil]); rfl) ?_; (with_reducible refine (orielref05_Next.calls k1 a0 x4_1 t229 t230 t231 _ A4.out).mono ?_); rintro e w6 ⟨rfl, hb⟩; refine ⟨_, rfl, ?_⟩; have n0_ := Aside0.mk (Kd.R_below (by (with_reducible repeat (fail)); exact HO_3.out) hb); have n1_ := Aside0.mk (below_step (by repeat (with_reducible exact HB.out)) hb); clear HO_3; clear HB; have HO_3 := n0_; have HB := n1_; clear n0_ n1_; (try clear hb); (try clear hb2); (try clear hk); (try clear hi)) | ((with_reducible refine gate_dst (N := 6) rfl ?_); (try (refine gate_guard (by rfl) ?_; dsimp only)); refine box_event ?hg (N := 6) ?hd (cs := #[.int .i64 0, .int .i64 0, .int .i64 0]) (t := 51) ?hr ?_; (case hd => rfl); (case hg => rfl); (case hr => (go_simp; done)); intro gb232 hg w7 hbox hb; have n0_ := Aside0.mk (Kd.R_below (Kd.R_elderB (by (with_reducible repeat (fail)); exact HO_3.out) gb232 (Nat.le_of_eq hg.symm)) hb); have n1_ := Aside0.mk (below_step (by repeat (with_reducible exact HB.out)) hb); have n2_ := Aside0.mk (hbox); have n3_ := Aside0.mk ((by rw [hg]; exact (below_size (by repeat (with_reducible exact HB.out))) : w.heap.size ≤ gb232)); have n4_ := Aside0.mk ((by rw [hg]; exact (below_size (by repeat (with_reducible exact HB.out))) : w.heap.size ≤ gb232)); clear HO_3; clear HB; have HO_3 := n0_; have HB := n1_; have BK232 := n2_; have GW232 := n3_; have GE232 := n4_; clear n0_ n1_ n2_ n3_ n4_; clear hb hbox hg; have hcz8_0 : w7.cell? ⟨gb232, 0, none⟩ = some (.int .i64 0) := (blk_cell BK232.out 0).trans rfl; have hcz8_1 : w7.cell? ⟨gb232, 1, none⟩ = some (.int .i64 0) := (blk_cell BK232.out 1).trans rfl; have hcz8_2 : w7.cell? ⟨gb232, 2, none⟩ = some (.int .i64 0) := (blk_cell BK232.out 2).trans rfl; have hfz8_0 := blk_frozen BK232.out 0; have hfz8_1 := blk_frozen BK232.out 1; have hfz8_2 := blk_frozen BK232.out 2) | ((with_reducible refine gate_builtin (b := .append) (xs := #[.tmp 22, .tmp 24]) rfl ?_); (try (refine gate_guard (by rfl) ?_; dsimp only)); at_builtin; refine Kd.R_append k51 (w0 := w) w.heap.size rfl (.tmp 22) (.tmp 24) 48 51 (.agg #[(.int .i64 0), (.int .i64 0), (.int .i64 0)]) 24 rfl Tryz.underlying48 info51 rfl (by decide) (by omega) u3 x3_1 (⟨t229, t230, t231⟩ : S51) [.int .i64 t229, .int .i64 t230, .int .i64 t231] (fun k_ => k_ ≠ gb232) (fun _ => False) rfl (by (go_simp; done)) ?aP (fun _ hk => hk.elim) ?aF ?aO ?aB ?aS ?aL ?_; (case aP => exact k51_mkM _ _ _ (⟨t229, t230, t231⟩ : S51)); (case aB => exact (by repeat ((with_reducible first | exact HB.out | refine below_set ?_ GE232.out)))); (case aF => exact (fun k_ hk => Kd.freshB (g := gb232) (o := .cells #[.int .i64 t229, .int .i64 t230, .int .i64 t231] 51 (0, 0)) (by (with_reducible repeat (fail)); refine blk_put (cs := #[.int .i64 t229, .int .i64 t230, .int .i64 0]) ?_ 2 _ rfl; (with_reducible repeat (fail)); refine blk_put (cs := #[.int .i64 t229, .int .i64 0, .int .i64 0]) ?_ 1 _ rfl; (with_reducible repeat (fail)); refine blk_put (cs := #[.int .i64 0, .int .i64 0, .int .i64 0]) ?_ 0 _ rfl; (with_reducible repeat (fail)); exact BK232.out) k_ hk)); (case aO => exact (by (with_reducible repeat (fail)); exact Kd.R_mono (Kd.R_far (p := ⟨gb232, 2, none⟩) (Kd.R_far (p := ⟨gb232, 1, none⟩) (Kd.R_far (p := ⟨gb232, 0, none⟩) (Kd.R_mono HO_3.out (fun k_ hk => (⟨hk, hk.2⟩ : _ ∧ k_ ≠ gb232))) (fun _ hk => hk.2) (.int .i64 t229)) (fun _ hk => hk.2) (.int .i64 t230)) (fun _ hk => hk.2) (.int .i64 t231)) (fun _ hk => hk.1.2))); (case aS => exact (below_size (by repeat ((with_reducible first | exact HB.out | refine below_set ?_ GE232.out))))); (case aL => have := LMc5.out; omega); intro v234 w9 ho hb hg hat; rw [← Ny233.out] at ho; have n0_ := Aside0.mk (blk_grown (g := gb232) (o := .cells #[.int .i64 t229, .int .i64 t230, .int .i64 t231] 51 (0, 0)) (by (with_reducible repeat (fail)); refine blk_put (cs := #[.int .i64 t229, .int .i64 t230, .int .i64 0]) ?_ 2 _ rfl; (with_reducible repeat (fail)); refine blk_put (cs := #[.int .i64 t229, .int .i64 0, .int .i64 0]) ?_ 1 _ rfl; (with_reducible repeat (fail)); refine blk_put (cs := #[.int .i64 0, .int .i64 0, .int .i64 0]) ?_ 0 _ rfl; (with_reducible repeat (fail)); exact BK232.out) hg (Kd.R_away HO_3.out (fun _ hk => hk.2))); have n1_ := Aside0.mk (hb); have n2_ := Aside0.mk (ho); clear BK232; clear HB; clear HO_3; have BK232 := n0_; have HB := n1_; have HO235 := n2_; clear n0_ n1_ n2_; clear ho hb hg hat; have hcz10_0 : w9.cell? ⟨gb232, 0, none⟩ = some (.int .i64 t229) := (blk_cell BK232.out 0).trans rfl; have hcz10_1 : w9.cell? ⟨gb232, 1, none⟩ = some (.int .i64 t230) := (blk_cell BK232.out 1).trans rfl; have hcz10_2 : w9.cell? ⟨gb232, 2, none⟩ = some (.int .i64 t231) := (blk_cell BK232.out 2).trans rfl; have hfz10_0 := blk_frozen BK232.out 0; have hfz10_1 := blk_frozen BK232.out 1; have hfz10_2 := blk_frozen BK232.out 2))
      go_roundg k1
      case measure => have := HK1.out; omega
      case rel => exact ⟨(y233), (t231), (wrap64 (x5_1 + 1)), (by rfl), (by rfl), H', ⟨by have := HK1.out; omega⟩, ⟨by (with_reducible repeat (fail)); exact Kd.R_mono HO235.out (fun _ hk => trivial)⟩, ⟨by repeat (with_reducible exact HB.out)⟩⟩
     ·rw [if_neg c5] at H
      exact absurd H (by simp)
    ·rw [if_neg c3] at H
     have c3b0 : decide (x4_1 < (a0.size : Int)) = false := decide_eq_false c3
     clear c3
     by_cases c11 : x3_1.length < 5864062014805
     ·rw [if_pos c11] at H
      have LMc11 := Aside0.mk c11
      clear c11
      obtain ⟨y236, hy236⟩ : ∃ y_ : List (S51), y_ = (x3_1 ++ [(⟨0, (a0.size : Int), (a0.size : Int)⟩ : S51)]) := ⟨_, rfl⟩
      replace H : (some y236) = some r := by (rw [hy236]; with_reducible exact H)
      have Ny236 := Aside0.mk hy236
      clear hy236
      obtain rfl := Option.some.inj H
      go_wp2_with (((with_reducible refine gate_builtin (b := .append) (xs := #[.tmp 28, .tmp 34]) rfl ?_); (try (refine gate_guard (by rfl) ?_; dsimp only)); at_builtin; refine Kd.R_append k51 (w0 := w) w.heap.size rfl (.tmp 28) (.tmp 34) 48 51 (.agg #[(.int .i64 0), (.int .i64 0), (.int .i64 0)]) 24 rfl Tryz.underlying48 info51 rfl (by decide) (by omega) u3 x3_1 (⟨0, (a0.size : Int), (a0.size : Int)⟩ : S51) [.int .i64 0, .int .i64 (a0.size : Int), .int .i64 (a0.size : Int)] (fun _ => True) (fun _ => False) rfl rfl ?aP (fun _ hk => hk.elim) ?aF ?aO ?aB ?aS ?aL ?_; (case aP => exact k51_mkM _ _ _ (⟨0, (a0.size : Int), (a0.size : Int)⟩ : S51)); (case aB => exact (by repeat (with_reducible exact HB.out))); (case aF => exact (fun _ _ => trivial)); (case aO => exact (by (with_reducible repeat (fail)); exact HO_3.out)); (case aS => exact (below_size (by repeat (with_reducible exact HB.out)))); (case aL => have := LMc11.out; omega); intro v237 w12 ho hb hg hat; rw [← Ny236.out] at ho; have n0_ := Aside0.mk (hb); have n1_ := Aside0.mk (ho); clear HB; clear HO_3; have HB := n0_; have HO238 := n1_; clear n0_ n1_; clear ho hb hg hat))
      go_ret
      exact ⟨_, by rfl, by (with_reducible repeat (fail)); exact HO238.out, by repeat (with_reducible exact HB.out)⟩
     ·rw [if_neg c11] at H
      exact absurd H (by simp)
   ·rw [if_neg c2] at H
    have c2b0 : decide (x5_1 ≤ (a0.size : Int)) = false := decide_eq_false c2
    clear c2
    by_cases c13 : x3_1.length < 5864062014805
    ·rw [if_pos c13] at H
     have LMc13 := Aside0.mk c13
     clear c13
     obtain ⟨y239, hy239⟩ : ∃ y_ : List (S51), y_ = (x3_1 ++ [(⟨0, (a0.size : Int), (a0.size : Int)⟩ : S51)]) := ⟨_, rfl⟩
     replace H : (some y239) = some r := by (rw [hy239]; with_reducible exact H)
     have Ny239 := Aside0.mk hy239
     clear hy239
     obtain rfl := Option.some.inj H
     go_wp2_with (((with_reducible refine gate_builtin (b := .append) (xs := #[.tmp 28, .tmp 34]) rfl ?_); (try (refine gate_guard (by rfl) ?_; dsimp only)); at_builtin; refine Kd.R_append k51 (w0 := w) w.heap.size rfl (.tmp 28) (.tmp 34) 48 51 (.agg #[(.int .i64 0), (.int .i64 0), (.int .i64 0)]) 24 rfl Tryz.underlying48 info51 rfl (by decide) (by omega) u3 x3_1 (⟨0, (a0.size : Int), (a0.size : Int)⟩ : S51) [.int .i64 0, .int .i64 (a0.size : Int), .int .i64 (a0.size : Int)] (fun _ => True) (fun _ => False) rfl rfl ?aP (fun _ hk => hk.elim) ?aF ?aO ?aB ?aS ?aL ?_; (case aP => exact k51_mkM _ _ _ (⟨0, (a0.size : Int), (a0.size : Int)⟩ : S51)); (case aB => exact (by repeat (with_reducible exact HB.out))); (case aF => exact (fun _ _ => trivial)); (case aO => exact (by (with_reducible repeat (fail)); exact HO_3.out)); (case aS => exact (below_size (by repeat (with_reducible exact HB.out)))); (case aL => have := LMc13.out; omega); intro v240 w14 ho hb hg hat; rw [← Ny239.out] at ho; have n0_ := Aside0.mk (hb); have n1_ := Aside0.mk (ho); clear HB; clear HO_3; have HB := n0_; have HO241 := n1_; clear n0_ n1_; clear ho hb hg hat))
     go_ret
     exact ⟨_, by rfl, by (with_reducible repeat (fail)); exact HO241.out, by repeat (with_reducible exact HB.out)⟩
    ·rw [if_neg c13] at H
     exact absurd H (by simp)

/-! ### orielref05_Named: function 48 -/
def orielref05_Named.f (a0 : Int) : Option (Bool) := if a0 = 6 then (some true) else (if a0 = 7 then (some true) else (some (a0 == 9)))
set_option maxHeartbeats 8000000 in
set_option maxRecDepth 100000 in
theorem orielref05_Named.calls (a0 : Int) (r : Bool) (w : World) (h : orielref05_Named.f a0 = some r) :
  Calls Tryz.prog 48 #[.int .i64 a0] w fun e w' => e = .returned (.bool r) ∧ Drawn0 w w' := by
 have H : (if a0 = 6 then (some true) else (if a0 = 7 then (some true) else (some (a0 == 9)))) = some r := h
 clear h
 by_cases c2 : a0 = 6
 ·rw [if_pos c2] at H
  have c2b0 : (a0 == 6) = true := beq_iff_eq.mpr c2
  have c2b1 : (a0 != 6) = false := bne_eq_false_iff_eq.mpr c2
  clear c2
  obtain rfl := Option.some.inj H
  go_enter Tryz.func48, Tryz.ntmps48
  go_wp2
  go_ret
  exact ⟨by rfl, by repeat (exact Drawn0.refl _)⟩
 ·rw [if_neg c2] at H
  have c2b0 : (a0 == 6) = false := beq_eq_false_iff_ne.mpr c2
  have c2b1 : (a0 != 6) = true := bne_iff_ne.mpr c2
  by_cases c3 : a0 = 7
  ·rw [if_pos c3] at H
   have c3b0 : (a0 == 7) = true := beq_iff_eq.mpr c3
   have c3b1 : (a0 != 7) = false := bne_eq_false_iff_eq.mpr c3
   clear c3
   obtain rfl := Option.some.inj H
   go_enter Tryz.func48, Tryz.ntmps48
   go_wp2
   go_ret
   exact ⟨by rfl, by repeat (exact Drawn0.refl _)⟩
  ·rw [if_neg c3] at H
   have c3b0 : (a0 == 7) = false := beq_eq_false_iff_ne.mpr c3
   have c3b1 : (a0 != 7) = true := bne_iff_ne.mpr c3
   obtain rfl := Option.some.inj H
   go_enter Tryz.func48, Tryz.ntmps48
   go_wp2
   go_ret
   exact ⟨by rfl, by repeat (exact Drawn0.refl _)⟩

/-! ### orielref05_Names: function 23 -/
def orielref05_Names.l0 : Nat → List (S51) → List (S51) → Int → Option ((List (S51)))
 | 0, _, _, _ => none
 | k + 1, x3, x4, x5 => if x5 < (x4.length : Int) then (if 0 ≤ x5 then ((orielref05_Named.f ((rd_T51 x4 x5).f0)).bind fun t246 => (if t246 = true then (if x3.length < 5864062014805 then (orielref05_Names.l0 k (x3 ++ [(⟨(rd_T51 x4 x5).f0, (rd_T51 x4 x5).f1, (rd_T51 x4 x5).f2⟩ : S51)]) x4 (wrap64 (x5 + 1))) else (none)) else (orielref05_Names.l0 k x3 x4 (wrap64 (x5 + 1))))) else (none)) else (some x3)
def orielref05_Names.f (k : Nat) (a0 : ByteArray) : Option ((List (S51))) := (orielref05_Scan.f k a0).bind fun t242 => (orielref05_Names.l0 k ([] : List (S51)) t242 0)
theorem orielref05_Names.mono_l : ∀ k, (∀ y0 y1 y2, LeO (orielref05_Names.l0 k y0 y1 y2) (orielref05_Names.l0 (k + 1) y0 y1 y2))
 | 0 => fun _ _ _ r h => by simp [orielref05_Names.l0] at h
 | k + 1 => by
  have ih0 := orielref05_Names.mono_l k
  ·intro y0 y1 y2
   unfold orielref05_Names.l0
   repeat' first
   | (with_reducible exact ih0 _ _ _)
   | (with_reducible exact LeO.refl _)
   | (with_reducible refine LeO.ite ?_ ?_)
   | (with_reducible refine LeO.bind ?_ (fun _ => ?_))
theorem orielref05_Names.mono : ∀ a0 k, LeO (orielref05_Names.f k a0) (orielref05_Names.f (k + 1) a0) := by
 intro a0 k
 have ih0 := orielref05_Names.mono_l k
 unfold orielref05_Names.f
 repeat' first
   | (with_reducible exact ih0 _ _ _)
   | (with_reducible exact orielref05_Scan.mono _ _)
   | (with_reducible refine LeO.bind ?_ (fun _ => ?_))
set_option maxHeartbeats 8000000 in
set_option maxRecDepth 100000 in
theorem orielref05_Names.calls (k : Nat) (a0 : ByteArray) (r : List (S51)) (w : World) (h : orielref05_Names.f k a0 = some r) :
  Calls Tryz.prog 23 #[.string a0] w fun e w' => ∃ v0_ : Value, e = .returned (v0_) ∧ Kd.R k51 51 w' w.heap.size (fun _ => True) v0_ r ∧ Below w.heap.size w w' := by
 have hu51 := Tryz.underlying51
 have HB := Aside0.mk (Below.refl w.heap.size w)
 have H : ((orielref05_Scan.f k a0).bind fun t242 => (orielref05_Names.l0 k ([] : List (S51)) t242 0)) = some r := h
 clear h
 replace H := Option.bind_eq_some_iff.mp H
 obtain ⟨t242, A20, H⟩ := H
 replace H : (orielref05_Names.l0 k ([] : List (S51)) t242 0) = some r := H
 have A2 := Aside0.mk A20
 clear A20
 have H' := Aside0.mk H
 clear H
 go_enter Tryz.func23, Tryz.ntmps23
 go_wp2_with (((with_reducible refine gate_callee (f := 47) rfl ?_); refine goesL_ (some 7) rfl rfl Tryz.func47 (by kernel_rfl) rfl #[.string a0] rfl (by (try simp only [List.map_toArray, List.map_cons, List.map_nil]); rfl) ?_; (with_reducible refine (orielref05_Scan.calls k a0 t242 _ A2.out).mono ?_); rintro e w3 ⟨v243, rfl, ho0, hb⟩; refine ⟨_, rfl, ?_⟩; have n0_ := Aside0.mk (Kd.R_lower ho0 (below_size (by repeat (with_reducible exact HB.out)))); have n1_ := Aside0.mk (below_step (by repeat (with_reducible exact HB.out)) hb); clear HB; have HO244 := n0_; have HB := n1_; clear n0_ n1_; (try clear hb); (try clear hb2); (try clear hk); (try clear hi); (try clear ho0)))
 go_loopg [3, 5] k (fun kq v3 v5 w' => ∃ (x3_1 : List (S51)) (x5_1 : Int), v5 = .int .i64 x5_1 ∧ Aside0 (orielref05_Names.l0 kq x3_1 t242 x5_1 = some r) ∧ Aside0 (kq ≤ k) ∧ Aside0 (Kd.R k51 51 w' w.heap.size (fun k_ => some k_ ≠ (v243 : Value).ownBlock) v3 x3_1) ∧ Aside0 (Kd.R k51 51 w' w.heap.size (fun k_ => some k_ ≠ (v3 : Value).ownBlock) v243 t242) ∧ Aside0 (Below w.heap.size w w'))
 case atStart => exact ⟨(([] : List (S51))), (0), (by rfl), H', ⟨Nat.le_refl _⟩, ⟨by exact Kd.R_nil _ _ _ _ _⟩, ⟨by (with_reducible repeat (fail)); exact Kd.R_mono HO244.out (fun _ hk => (by simp [Value.ownBlock]))⟩, ⟨by repeat (with_reducible exact HB.out)⟩⟩
 case round =>
  clear H'
  obtain ⟨x3_1, x5_1, rfl, HA, HK1, HO_3, HO_4, HB⟩ := hrel
  cases gk with
  | zero => exact absurd HA.out (by simp [orielref05_Names.l0])
  | succ k1 =>
   have H := HA.out
   clear HA
   simp only [orielref05_Names.l0] at H
   by_cases c4 : x5_1 < (t242.length : Int)
   ·rw [if_pos c4] at H
    have c4b0 : decide (x5_1 < (t242.length : Int)) = true := decide_eq_true c4
    clear c4
    by_cases c5 : 0 ≤ x5_1
    ·rw [if_pos c5] at H
     have c5b0 : decide (0 ≤ x5_1) = true := decide_eq_true c5
     clear c5
     replace H := Option.bind_eq_some_iff.mp H
     obtain ⟨t246, A60, H⟩ := H
     replace H : (if t246 = true then (if x3_1.length < 5864062014805 then (orielref05_Names.l0 k1 (x3_1 ++ [(⟨(rd_T51 t242 x5_1).f0, (rd_T51 t242 x5_1).f1, (rd_T51 t242 x5_1).f2⟩ : S51)]) t242 (wrap64 (x5_1 + 1))) else (none)) else (orielref05_Names.l0 k1 x3_1 t242 (wrap64 (x5_1 + 1)))) = some r := H
     have A6 := Aside0.mk A60
     clear A60
     by_cases c7 : t246 = true
     ·subst c7
      have H1 : (if x3_1.length < 5864062014805 then (orielref05_Names.l0 k1 (x3_1 ++ [(⟨(rd_T51 t242 x5_1).f0, (rd_T51 t242 x5_1).f1, (rd_T51 t242 x5_1).f2⟩ : S51)]) t242 (wrap64 (x5_1 + 1))) else (none)) = some r := by rw [if_pos rfl] at H; exact H
      clear H
      have H := H1
      clear H1
      by_cases c8 : x3_1.length < 5864062014805
      ·rw [if_pos c8] at H
       have LMc8 := Aside0.mk c8
       clear c8
       obtain ⟨y248, hy248⟩ : ∃ y_ : List (S51), y_ = (x3_1 ++ [(⟨(rd_T51 t242 x5_1).f0, (rd_T51 t242 x5_1).f1, (rd_T51 t242 x5_1).f2⟩ : S51)]) := ⟨_, rfl⟩
       replace H : (orielref05_Names.l0 k1 y248 t242 (wrap64 (x5_1 + 1))) = some r := by (rw [hy248]; with_reducible exact H)
       have Ny248 := Aside0.mk hy248
       clear hy248
       have H' := Aside0.mk H
       clear H
       obtain ⟨Ao9, co9, eo9⟩ := Kd.R_slice HO_4.out
       subst eo9
       have p245 : 0 ≤ (x5_1 : Int) := of_decide_eq_true (by with_reducible assumption)
       have q245 : x5_1 < (t242.length : Int) := of_decide_eq_true (by with_reducible assumption)
       obtain ⟨ad245, e245, hx245_0, hx245_1, hx245_2⟩ := at_T51 (Kd.R_reads' HO_4.out).2.2 x5_1 p245 q245
       cases e245
       replace p245 := eq_true p245
       replace q245 := eq_true q245
       go_wp2_with (first | ((with_reducible refine gate_callee (f := 48) rfl ?_); refine goesL_ (some 19) rfl rfl Tryz.func48 (by kernel_rfl) rfl #[.int .i64 ((rd_T51 t242 x5_1).f0)] rfl (by (try simp only [List.map_toArray, List.map_cons, List.map_nil]); rfl) ?_; (with_reducible refine (orielref05_Named.calls ((rd_T51 t242 x5_1).f0) true _ A6.out).mono ?_); rintro e w' ⟨rfl, ⟨nd, rfl⟩⟩; refine ⟨_, rfl, ?_⟩; have p247 : 0 ≤ (x5_1 : Int) := of_decide_eq_true (by with_reducible assumption); have q247 : x5_1 < (t242.length : Int) := of_decide_eq_true (by with_reducible assumption); obtain ⟨ad247, e247, hx247_0, hx247_1, hx247_2⟩ := at_T51 (Kd.R_reads' HO_4.out).2.2 x5_1 p247 q247; obtain rfl : ad245 = ad247 := (by injection e247); replace p247 := eq_true p247; replace q247 := eq_true q247) | ((with_reducible refine gate_builtin (b := .append) (xs := #[.tmp 20, .tmp 25]) rfl ?_); at_builtin; refine Kd.R_append k51 (w0 := w) w.heap.size rfl (.tmp 20) (.tmp 25) 48 51 (.agg #[(.int .i64 0), (.int .i64 0), (.int .i64 0)]) 24 rfl Tryz.underlying48 info51 rfl (by decide) (by omega) u3 x3_1 (⟨(rd_T51 t242 x5_1).f0, (rd_T51 t242 x5_1).f1, (rd_T51 t242 x5_1).f2⟩ : S51) [.int .i64 ((rd_T51 t242 x5_1).f0), .int .i64 ((rd_T51 t242 x5_1).f1), .int .i64 ((rd_T51 t242 x5_1).f2)] (fun k_ => some k_ ≠ (.slice (some ad245) t242.length co9 : Value).ownBlock) (fun _ => False) rfl rfl ?aP (fun _ hk => hk.elim) ?aF ?aO ?aB ?aS ?aL ?_; (case aP => exact k51_mkM _ _ _ (⟨(rd_T51 t242 x5_1).f0, (rd_T51 t242 x5_1).f1, (rd_T51 t242 x5_1).f2⟩ : S51)); (case aB => exact (by repeat ((with_reducible first | exact HB.out | apply pw_below_drewN )))); (case aF => exact (fun k_ hk => Kd.fresh' (Kd.R_lt (by (with_reducible repeat (apply Kd.R_drewN)); exact HO_4.out)) k_ hk)); (case aO => exact (by (with_reducible repeat (apply Kd.R_drewN)); exact HO_3.out)); (case aS => exact (below_size (by repeat ((with_reducible first | exact HB.out | apply pw_below_drewN ))))); (case aL => have := LMc8.out; omega); intro v249 w10 ho hb hg hat; rw [← Ny248.out] at ho; have n0_ := Aside0.mk (Kd.R_after (ok := (fun _ => True)) (by (with_reducible repeat (apply Kd.R_drewN)); exact Kd.R_mono HO_4.out (fun _ hk => ⟨trivial, hk⟩)) hg hat); have n1_ := Aside0.mk (hb); have n2_ := Aside0.mk (ho); clear HO_4; clear HB; clear HO_3; have HO_4 := n0_; have HB := n1_; have HO250 := n2_; clear n0_ n1_ n2_; clear ho hb hg hat))
       go_roundg k1
       case measure => have := HK1.out; omega
       case rel => exact ⟨(y248), (wrap64 (x5_1 + 1)), (by rfl), H', ⟨by have := HK1.out; omega⟩, ⟨by (with_reducible repeat (fail)); exact HO250.out⟩, ⟨by (with_reducible repeat (fail)); exact Kd.R_mono HO_4.out (fun _ hk => hk.2)⟩, ⟨by repeat (with_reducible exact HB.out)⟩⟩
      ·rw [if_neg c8] at H
       exact absurd H (by simp)
     ·replace c7 := Bool.eq_false_iff.mpr c7
      subst c7
      have H1 : (orielref05_Names.l0 k1 x3_1 t242 (wrap64 (x5_1 + 1))) = some r := by rw [if_neg (show ¬ (false = true) by decide)] at H; exact H
      clear H
      have H := H1
      clear H1
      have H' := Aside0.mk H
      clear H
      obtain ⟨Ao11, co11, eo11⟩ := Kd.R_slice HO_4.out
      subst eo11
      have p245 : 0 ≤ (x5_1 : Int) := of_decide_eq_true (by with_reducible assumption)
      have q245 : x5_1 < (t242.length : Int) := of_decide_eq_true (by with_reducible assumption)
      obtain ⟨ad245, e245, hx245_0, hx245_1, hx245_2⟩ := at_T51 (Kd.R_reads' HO_4.out).2.2 x5_1 p245 q245
      cases e245
      replace p245 := eq_true p245
      replace q245 := eq_true q245
      go_wp2_with (((with_reducible refine gate_callee (f := 48) rfl ?_); refine goesL_ (some 19) rfl rfl Tryz.func48 (by kernel_rfl) rfl #[.int .i64 ((rd_T51 t242 x5_1).f0)] rfl (by (try simp only [List.map_toArray, List.map_cons, List.map_nil]); rfl) ?_; (with_reducible refine (orielref05_Named.calls ((rd_T51 t242 x5_1).f0) false _ A6.out).mono ?_); rintro e w' ⟨rfl, ⟨nd, rfl⟩⟩; refine ⟨_, rfl, ?_⟩))
      go_roundg k1
      case measure => have := HK1.out; omega
      case rel => exact ⟨(x3_1), (wrap64 (x5_1 + 1)), (by rfl), H', ⟨by have := HK1.out; omega⟩, ⟨by (with_reducible repeat (apply Kd.R_drewN)); exact HO_3.out⟩, ⟨by (with_reducible repeat (apply Kd.R_drewN)); exact HO_4.out⟩, ⟨by repeat ((with_reducible first | exact HB.out | apply pw_below_drewN ))⟩⟩
    ·rw [if_neg c5] at H
     exact absurd H (by simp)
   ·rw [if_neg c4] at H
    have c4b0 : decide (x5_1 < (t242.length : Int)) = false := decide_eq_false c4
    clear c4
    obtain rfl := Option.some.inj H
    obtain ⟨Ao12, co12, eo12⟩ := Kd.R_slice HO_4.out
    subst eo12
    go_wp2
    go_ret
    exact ⟨_, by rfl, by (with_reducible repeat (fail)); exact Kd.R_mono HO_3.out (fun _ hk => trivial), by repeat (with_reducible exact HB.out)⟩

/-! ### orielref16_Taken: function 13 -/
theorem string_gtr (t : TypeId) (a b : ByteArray) : binOp .gtr t (.string a) (.string b) = pure (.bool (Op.bytesLess b.toList a.toList)) := by
 have h : (!(Op.bytesLess a.toList b.toList || a.toList == b.toList)) = Op.bytesLess b.toList a.toList := by
  rw [Go.Proofs.bytesLess_eq, Go.Proofs.bytesLess_eq, Bool.eq_iff_iff]
  simp only [Bool.not_eq_true', Bool.or_eq_false_iff, decide_eq_false_iff_not, beq_eq_false_iff_ne, decide_eq_true_eq, List.not_lt]
  constructor
  ·rintro ⟨h1, h2⟩
   exact Decidable.byContradiction fun hc => h2 (List.le_antisymm (List.not_lt.1 hc) h1)
  ·intro h
   exact ⟨List.not_lt.1 (List.lt_asymm h), fun e => by rw [e] at h; exact List.lt_irrefl _ h⟩
 rw [← h]
 simp [binOp, Op.stringOp]
attribute [local go_sem high] string_gtr
mutual
def orielref16_Taken.l0 : Nat → List (S41) → List ByteArray → Int → Option (List ByteArray)
 | 0, _, _, _ => none
 | k + 1, x0, x3, x4 => if x4 < (x0.length : Int) then (if 0 ≤ x4 then ((orielref05_Names.f k ((rd_T41 x0 x4).f1)).bind fun t252 => (orielref16_Taken.l1 k x0 x3 x4 t252 0)) else (none)) else (some x3)
def orielref16_Taken.l1 : Nat → List (S41) → List ByteArray → Int → List (S51) → Int → Option (List ByteArray)
 | 0, _, _, _, _, _ => none
 | k + 1, x0, x3, x4, x5, x6 => if x6 < (x5.length : Int) then (if 0 ≤ x4 then (if x4 < (x0.length : Int) then (if 0 ≤ x6 then (if 0 ≤ ((rd_T51 x5 x6).f1) then (if ((rd_T51 x5 x6).f1) ≤ ((rd_T51 x5 x6).f2) then (if ((rd_T51 x5 x6).f2) ≤ (((rd_T41 x0 x4).f1).size : Int) then ((orielref04_In.f k x3 (((rd_T41 x0 x4).f1).extract (((rd_T51 x5 x6).f1) : Int).toNat (((rd_T51 x5 x6).f2) : Int).toNat)).bind fun t258 => (if t258 = true then (orielref16_Taken.l1 k x0 x3 x4 x5 (wrap64 (x6 + 1))) else (orielref16_Taken.l2 k x0 x3 x4 x5 x6 (((rd_T41 x0 x4).f1).extract (((rd_T51 x5 x6).f1) : Int).toNat (((rd_T51 x5 x6).f2) : Int).toNat) (x3.length : Int)))) else (none)) else (none)) else (none)) else (none)) else (none)) else (none)) else (orielref16_Taken.l0 k x0 x3 (wrap64 (x4 + 1)))
def orielref16_Taken.l2 : Nat → List (S41) → List ByteArray → Int → List (S51) → Int → ByteArray → Int → Option (List ByteArray)
 | 0, _, _, _, _, _, _, _ => none
 | k + 1, x0, x3, x4, x5, x6, x7, x8 => if x8 > 0 then (if 0 ≤ (wrap64 (x8 - 1)) then (if (wrap64 (x8 - 1)) < (x3.length : Int) then (if (Op.bytesLess x7.toList ((rdOf ByteArray.empty x3 (wrap64 (x8 - 1))).toList)) = true then (orielref16_Taken.l2 k x0 x3 x4 x5 x6 x7 (wrap64 (x8 - 1))) else ((some (([] : List ByteArray) : List ByteArray)).bind fun y260 => (if 0 ≤ x8 then (if x8 ≤ (x3.length : Int) then ((some (x3.take (x8 : Int).toNat : List ByteArray)).bind fun y263 => (if y260.length + y263.length < 8796093022208 then ((some (y260 ++ y263 : List ByteArray)).bind fun y267 => (if y267.length < 8796093022208 then ((some (y267 ++ [x7] : List ByteArray)).bind fun y270 => ((some (x3.drop (x8 : Int).toNat : List ByteArray)).bind fun y273 => (if y270.length + y273.length < 8796093022208 then (orielref16_Taken.l1 k x0 (y270 ++ y273) x4 x5 (wrap64 (x6 + 1))) else (none)))) else (none))) else (none))) else (none)) else (none)))) else (none)) else (none)) else ((some (([] : List ByteArray) : List ByteArray)).bind fun y280 => (if 0 ≤ x8 then (if x8 ≤ (x3.length : Int) then ((some (x3.take (x8 : Int).toNat : List ByteArray)).bind fun y283 => (if y280.length + y283.length < 8796093022208 then ((some (y280 ++ y283 : List ByteArray)).bind fun y287 => (if y287.length < 8796093022208 then ((some (y287 ++ [x7] : List ByteArray)).bind fun y290 => ((some (x3.drop (x8 : Int).toNat : List ByteArray)).bind fun y293 => (if y290.length + y293.length < 8796093022208 then (orielref16_Taken.l1 k x0 (y290 ++ y293) x4 x5 (wrap64 (x6 + 1))) else (none)))) else (none))) else (none))) else (none)) else (none)))
end
def orielref16_Taken.f (k : Nat) (l0 : List (S41)) : Option (List ByteArray) := orielref16_Taken.l0 k l0 ([] : List ByteArray) 0
theorem orielref16_Taken.mono_l : ∀ k, (∀ y0 y1 y2, LeO (orielref16_Taken.l0 k y0 y1 y2) (orielref16_Taken.l0 (k + 1) y0 y1 y2)) ∧ (∀ y0 y1 y2 y3 y4, LeO (orielref16_Taken.l1 k y0 y1 y2 y3 y4) (orielref16_Taken.l1 (k + 1) y0 y1 y2 y3 y4)) ∧ (∀ y0 y1 y2 y3 y4 y5 y6, LeO (orielref16_Taken.l2 k y0 y1 y2 y3 y4 y5 y6) (orielref16_Taken.l2 (k + 1) y0 y1 y2 y3 y4 y5 y6))
 | 0 => ⟨fun _ _ _ r h => by simp [orielref16_Taken.l0] at h, fun _ _ _ _ _ r h => by simp [orielref16_Taken.l1] at h, fun _ _ _ _ _ _ _ r h => by simp [orielref16_Taken.l2] at h⟩
 | k + 1 => by
  obtain ⟨ih0, ih1, ih2⟩ := orielref16_Taken.mono_l k
  refine ⟨?_, ?_, ?_⟩
  ·intro y0 y1 y2
   unfold orielref16_Taken.l0
   repeat' first
   | (with_reducible exact ih1 _ _ _ _ _)
   | (with_reducible exact orielref05_Names.mono _ _)
   | (with_reducible exact LeO.refl _)
   | (with_reducible refine LeO.ite ?_ ?_)
   | (with_reducible refine LeO.bind ?_ (fun _ => ?_))
  ·intro y0 y1 y2 y3 y4
   unfold orielref16_Taken.l1
   repeat' first
   | (with_reducible exact ih0 _ _ _)
   | (with_reducible exact ih1 _ _ _ _ _)
   | (with_reducible exact ih2 _ _ _ _ _ _ _)
   | (with_reducible exact orielref04_In.mono _ _ _)
   | (with_reducible exact LeO.refl _)
   | (with_reducible refine LeO.ite ?_ ?_)
   | (with_reducible refine LeO.bind ?_ (fun _ => ?_))
  ·intro y0 y1 y2 y3 y4 y5 y6
   unfold orielref16_Taken.l2
   repeat' first
   | (with_reducible exact ih1 _ _ _ _ _)
   | (with_reducible exact ih2 _ _ _ _ _ _ _)
   | (with_reducible exact LeO.refl _)
   | (with_reducible refine LeO.ite ?_ ?_)
   | (with_reducible refine LeO.bind ?_ (fun _ => ?_))
theorem orielref16_Taken.mono : ∀ a0 k, LeO (orielref16_Taken.f k a0) (orielref16_Taken.f (k + 1) a0) := by
 intro a0 k
 obtain ⟨ih0, ih1, ih2⟩ := orielref16_Taken.mono_l k
 unfold orielref16_Taken.f
 repeat' with_reducible exact ih0 _ _ _
set_option maxHeartbeats 8000000 in
set_option maxRecDepth 100000 in
theorem orielref16_Taken.calls (k : Nat) (A0 : Option Addr) (c0 : Nat) (l0 : List (S41)) (r : List ByteArray) (w : World) (hr0 : Kd.C k41 w A0 l0.length l0) (hc0 : l0.length ≤ c0) (h : orielref16_Taken.f k l0 = some r) :
  Calls Tryz.prog 13 #[.slice A0 l0.length c0] w fun e w' => ∃ v0_ : Value, e = .returned (v0_) ∧ Kd.R Kd.string 9 w' w.heap.size (fun _ => True) v0_ r ∧ Below w.heap.size w w' := by
 have HR0 := Aside0.mk hr0
 have HC0 := Aside0.mk hc0
 clear hr0 hc0
 have HB := Aside0.mk (Below.refl w.heap.size w)
 have H : (orielref16_Taken.l0 k l0 ([] : List ByteArray) 0) = some r := h
 clear h
 have H' := Aside0.mk H
 clear H
 go_enter Tryz.func13, Tryz.ntmps13
 go_wp2
 repeat (go_quiet (fail); try go_wp2)
 go_loopg [3, 4] k (fun kq v3 v4 w' => ∃ (x3_1 : List ByteArray) (x4_1 : Int), v4 = .int .i64 x4_1 ∧ Aside0 (orielref16_Taken.l0 kq l0 x3_1 x4_1 = some r) ∧ Aside0 (kq ≤ k) ∧ Aside0 (Kd.R Kd.string 9 w' w.heap.size (fun _ => True) v3 x3_1) ∧ Aside0 (Below w.heap.size w w'))
 case atStart => exact ⟨(([] : List ByteArray)), (0), (by rfl), H', ⟨Nat.le_refl _⟩, ⟨by exact Kd.R_nil _ _ _ _ _⟩, ⟨by repeat (with_reducible exact HB.out)⟩⟩
 case round =>
  clear H'
  obtain ⟨x3_1, x4_1, rfl, HA, HK1, HO_3, HB⟩ := hrel
  cases gk with
  | zero => exact absurd HA.out (by simp [orielref16_Taken.l0])
  | succ k1 =>
   have H := HA.out
   clear HA
   simp only [orielref16_Taken.l0] at H
   by_cases c2 : x4_1 < (l0.length : Int)
   ·rw [if_pos c2] at H
    have c2b0 : decide (x4_1 < (l0.length : Int)) = true := decide_eq_true c2
    clear c2
    by_cases c3 : 0 ≤ x4_1
    ·rw [if_pos c3] at H
     have c3b0 : decide (0 ≤ x4_1) = true := decide_eq_true c3
     clear c3
     replace H := Option.bind_eq_some_iff.mp H
     obtain ⟨t252, A40, H⟩ := H
     replace H : (orielref16_Taken.l1 k1 l0 x3_1 x4_1 t252 0) = some r := H
     have A4 := Aside0.mk A40
     clear A40
     have H' := Aside0.mk H
     clear H
     have p251 : 0 ≤ (x4_1 : Int) := of_decide_eq_true (by with_reducible assumption)
     have q251 : x4_1 < (l0.length : Int) := of_decide_eq_true (by with_reducible assumption)
     obtain ⟨ad251, e251, hx251_0, hx251_1⟩ := at_T41 HR0.out x4_1 p251 q251
     cases e251
     replace hx251_0 := (HB.out.cell (World.block_lt_of_cell? w _ hx251_0)).trans hx251_0
     replace hx251_1 := (HB.out.cell (World.block_lt_of_cell? w _ hx251_1)).trans hx251_1
     replace p251 := eq_true p251
     replace q251 := eq_true q251
     go_wp2_with ((go_at_call 23; (with_reducible refine (orielref05_Names.calls k1 ((rd_T41 l0 x4_1).f1) t252 _ A4.out).mono ?_); rintro e w5 ⟨v253, rfl, ho0, hb⟩; have n0_ := Aside0.mk (Kd.R_below (by (with_reducible repeat (fail)); exact HO_3.out) hb); have n1_ := Aside0.mk (Kd.R_lower ho0 (below_size (by repeat (with_reducible exact HB.out)))); have n2_ := Aside0.mk (below_step (by repeat (with_reducible exact HB.out)) hb); clear HO_3; clear HB; have HO_3 := n0_; have HO254 := n1_; have HB := n2_; clear n0_ n1_ n2_; (try clear hb); (try clear hb2); (try clear hk); (try clear hi); (try clear ho0)))
     repeat (go_quiet (fail); try go_wp2_with (fail))
     go_loopg [3, 6] k1 (fun kq v3 v6 w' => ∃ (x3_2 : List ByteArray) (x6_2 : Int), v6 = .int .i64 x6_2 ∧ Aside0 (orielref16_Taken.l1 kq l0 x3_2 x4_1 t252 x6_2 = some r) ∧ Aside0 (kq ≤ k1) ∧ Aside0 (Kd.R Kd.string 9 w' w.heap.size (fun _ => True) v3 x3_2) ∧ Aside0 (Kd.R k51 51 w' w.heap.size (fun _ => True) v253 t252) ∧ Aside0 (Below w.heap.size w w'))
     case atStart => exact ⟨(x3_1), (0), (by rfl), H', ⟨Nat.le_refl _⟩, ⟨by (with_reducible repeat (fail)); exact HO_3.out⟩, ⟨by (with_reducible repeat (fail)); exact HO254.out⟩, ⟨by repeat (with_reducible exact HB.out)⟩⟩
     case round =>
      clear H'
      clear c2b0 c3b0 hx251_0 hx251_1 p251 q251
      obtain ⟨x3_2, x6_2, rfl, HA, HK2, HO_3, HO_5, HB⟩ := hrel
      cases gk with
      | zero => exact absurd HA.out (by simp [orielref16_Taken.l1])
      | succ k2 =>
       have H := HA.out
       clear HA
       simp only [orielref16_Taken.l1] at H
       by_cases c6 : x6_2 < (t252.length : Int)
       ·rw [if_pos c6] at H
        have c6b0 : decide (x6_2 < (t252.length : Int)) = true := decide_eq_true c6
        clear c6
        by_cases c7 : 0 ≤ x4_1
        ·rw [if_pos c7] at H
         have c7b0 : decide (0 ≤ x4_1) = true := decide_eq_true c7
         clear c7
         by_cases c8 : x4_1 < (l0.length : Int)
         ·rw [if_pos c8] at H
          have c8b0 : decide (x4_1 < (l0.length : Int)) = true := decide_eq_true c8
          clear c8
          by_cases c9 : 0 ≤ x6_2
          ·rw [if_pos c9] at H
           have c9b0 : decide (0 ≤ x6_2) = true := decide_eq_true c9
           clear c9
           by_cases c10 : 0 ≤ ((rd_T51 t252 x6_2).f1)
           ·rw [if_pos c10] at H
            have c10b0 := eq_true c10
            have c10b1 : decide (0 ≤ ((rd_T51 t252 x6_2).f1)) = true := decide_eq_true c10
            clear c10
            by_cases c11 : ((rd_T51 t252 x6_2).f1) ≤ ((rd_T51 t252 x6_2).f2)
            ·rw [if_pos c11] at H
             have c11b0 := eq_true c11
             have c11b1 : decide (((rd_T51 t252 x6_2).f1) ≤ ((rd_T51 t252 x6_2).f2)) = true := decide_eq_true c11
             clear c11
             by_cases c12 : ((rd_T51 t252 x6_2).f2) ≤ (((rd_T41 l0 x4_1).f1).size : Int)
             ·rw [if_pos c12] at H
              have c12b0 := eq_true c12
              have c12b1 : decide (((rd_T51 t252 x6_2).f2) ≤ (((rd_T41 l0 x4_1).f1).size : Int)) = true := decide_eq_true c12
              clear c12
              replace H := Option.bind_eq_some_iff.mp H
              obtain ⟨t258, A130, H⟩ := H
              replace H : (if t258 = true then (orielref16_Taken.l1 k2 l0 x3_2 x4_1 t252 (wrap64 (x6_2 + 1))) else (orielref16_Taken.l2 k2 l0 x3_2 x4_1 t252 x6_2 (((rd_T41 l0 x4_1).f1).extract (((rd_T51 t252 x6_2).f1) : Int).toNat (((rd_T51 t252 x6_2).f2) : Int).toNat) (x3_2.length : Int))) = some r := H
              have A13 := Aside0.mk A130
              clear A130
              by_cases c14 : t258 = true
              ·subst c14
               have H1 : (orielref16_Taken.l1 k2 l0 x3_2 x4_1 t252 (wrap64 (x6_2 + 1))) = some r := by rw [if_pos rfl] at H; exact H
               clear H
               have H := H1
               clear H1
               have H' := Aside0.mk H
               clear H
               obtain ⟨Ao15, co15, eo15⟩ := Kd.R_slice HO_5.out
               subst eo15
               have p255 : 0 ≤ (x4_1 : Int) := of_decide_eq_true (by with_reducible assumption)
               have q255 : x4_1 < (l0.length : Int) := of_decide_eq_true (by with_reducible assumption)
               obtain ⟨ad255, e255, hx255_0, hx255_1⟩ := at_T41 HR0.out x4_1 p255 q255
               obtain rfl : ad251 = ad255 := (by injection e255)
               replace hx255_0 := (HB.out.cell (World.block_lt_of_cell? w _ hx255_0)).trans hx255_0
               replace hx255_1 := (HB.out.cell (World.block_lt_of_cell? w _ hx255_1)).trans hx255_1
               replace p255 := eq_true p255
               replace q255 := eq_true q255
               have p256 : 0 ≤ (x6_2 : Int) := of_decide_eq_true (by with_reducible assumption)
               have q256 : x6_2 < (t252.length : Int) := of_decide_eq_true (by with_reducible assumption)
               obtain ⟨ad256, e256, hx256_0, hx256_1, hx256_2⟩ := at_T51 (Kd.R_reads' HO_5.out).2.2 x6_2 p256 q256
               cases e256
               replace p256 := eq_true p256
               replace q256 := eq_true q256
               have p257 : 0 ≤ (x6_2 : Int) := of_decide_eq_true (by with_reducible assumption)
               have q257 : x6_2 < (t252.length : Int) := of_decide_eq_true (by with_reducible assumption)
               obtain ⟨ad257, e257, hx257_0, hx257_1, hx257_2⟩ := at_T51 (Kd.R_reads' HO_5.out).2.2 x6_2 p257 q257
               obtain rfl : ad256 = ad257 := (by injection e257)
               replace p257 := eq_true p257
               replace q257 := eq_true q257
               obtain ⟨Ao16, co16, eo16⟩ := Kd.R_slice HO_3.out
               subst eo16
               go_wp2_with (fail)
               repeat (go_quiet (fail); try go_wp2_with ((go_at_call 22; (with_reducible refine (orielref04_In.calls k2 _ _ x3_2 (((rd_T41 l0 x4_1).f1).extract (((rd_T51 t252 x6_2).f1) : Int).toNat (((rd_T51 t252 x6_2).f2) : Int).toNat) true _ ?side1 ?side2 A13.out).mono ?_); (case side1 => repeat (exact (Kd.R_reads' HO_3.out).2.2)); (case side2 => exact (Kd.R_reads' HO_3.out).2.1); rintro e w' ⟨rfl, ⟨nd, rfl⟩⟩; (try fail))))
               go_roundg k2
               case measure => have := HK1.out; have := HK2.out; omega
               case rel => exact ⟨(x3_2), (wrap64 (x6_2 + 1)), (by rfl), H', ⟨by have := HK1.out; have := HK2.out; omega⟩, ⟨by (with_reducible repeat (apply Kd.R_drewN)); exact HO_3.out⟩, ⟨by (with_reducible repeat (apply Kd.R_drewN)); exact HO_5.out⟩, ⟨by repeat ((with_reducible first | exact HB.out | apply pw_below_drewN ))⟩⟩
              ·replace c14 := Bool.eq_false_iff.mpr c14
               subst c14
               have H1 : (orielref16_Taken.l2 k2 l0 x3_2 x4_1 t252 x6_2 (((rd_T41 l0 x4_1).f1).extract (((rd_T51 t252 x6_2).f1) : Int).toNat (((rd_T51 t252 x6_2).f2) : Int).toNat) (x3_2.length : Int)) = some r := by rw [if_neg (show ¬ (false = true) by decide)] at H; exact H
               clear H
               have H := H1
               clear H1
               have H' := Aside0.mk H
               clear H
               obtain ⟨Ao17, co17, eo17⟩ := Kd.R_slice HO_5.out
               subst eo17
               have p255 : 0 ≤ (x4_1 : Int) := of_decide_eq_true (by with_reducible assumption)
               have q255 : x4_1 < (l0.length : Int) := of_decide_eq_true (by with_reducible assumption)
               obtain ⟨ad255, e255, hx255_0, hx255_1⟩ := at_T41 HR0.out x4_1 p255 q255
               obtain rfl : ad251 = ad255 := (by injection e255)
               replace hx255_0 := (HB.out.cell (World.block_lt_of_cell? w _ hx255_0)).trans hx255_0
               replace hx255_1 := (HB.out.cell (World.block_lt_of_cell? w _ hx255_1)).trans hx255_1
               replace p255 := eq_true p255
               replace q255 := eq_true q255
               have p256 : 0 ≤ (x6_2 : Int) := of_decide_eq_true (by with_reducible assumption)
               have q256 : x6_2 < (t252.length : Int) := of_decide_eq_true (by with_reducible assumption)
               obtain ⟨ad256, e256, hx256_0, hx256_1, hx256_2⟩ := at_T51 (Kd.R_reads' HO_5.out).2.2 x6_2 p256 q256
               cases e256
               replace p256 := eq_true p256
               replace q256 := eq_true q256
               have p257 : 0 ≤ (x6_2 : Int) := of_decide_eq_true (by with_reducible assumption)
               have q257 : x6_2 < (t252.length : Int) := of_decide_eq_true (by with_reducible assumption)
               obtain ⟨ad257, e257, hx257_0, hx257_1, hx257_2⟩ := at_T51 (Kd.R_reads' HO_5.out).2.2 x6_2 p257 q257
               obtain rfl : ad256 = ad257 := (by injection e257)
               replace p257 := eq_true p257
               replace q257 := eq_true q257
               obtain ⟨Ao18, co18, eo18⟩ := Kd.R_slice HO_3.out
               subst eo18
               go_wp2_with (fail)
               repeat (go_quiet (fail); try go_wp2_with ((go_at_call 22; (with_reducible refine (orielref04_In.calls k2 _ _ x3_2 (((rd_T41 l0 x4_1).f1).extract (((rd_T51 t252 x6_2).f1) : Int).toNat (((rd_T51 t252 x6_2).f2) : Int).toNat) false _ ?side1 ?side2 A13.out).mono ?_); (case side1 => repeat (exact (Kd.R_reads' HO_3.out).2.2)); (case side2 => exact (Kd.R_reads' HO_3.out).2.1); rintro e w' ⟨rfl, ⟨nd, rfl⟩⟩; (try fail))))
               go_loopg [8] k2 (fun kq v8 w' => ∃ (x8_3 : Int), v8 = .int .i64 x8_3 ∧ Aside0 (orielref16_Taken.l2 kq l0 x3_2 x4_1 t252 x6_2 (((rd_T41 l0 x4_1).f1).extract (((rd_T51 t252 x6_2).f1) : Int).toNat (((rd_T51 t252 x6_2).f2) : Int).toNat) x8_3 = some r) ∧ Aside0 (kq ≤ k2) ∧ Aside0 (Kd.R Kd.string 9 w' w.heap.size (fun _ => True) (.slice Ao18 x3_2.length co18) x3_2) ∧ Aside0 (Kd.R k51 51 w' w.heap.size (fun _ => True) (.slice (some ad256) t252.length co17) t252) ∧ Aside0 (Below w.heap.size w w'))
               case atStart => exact ⟨((x3_2.length : Int)), (by rfl), H', ⟨Nat.le_refl _⟩, ⟨by (with_reducible repeat (apply Kd.R_drewN)); exact HO_3.out⟩, ⟨by (with_reducible repeat (apply Kd.R_drewN)); exact HO_5.out⟩, ⟨by repeat ((with_reducible first | exact HB.out | apply pw_below_drewN ))⟩⟩
               case round =>
                clear H'
                clear c6b0 c7b0 c8b0 c9b0 c10b0 c10b1 c11b0 c11b1 c12b0 c12b1 hx255_0 hx255_1 hx256_0 hx256_1 hx256_2 hx257_0 hx257_1 hx257_2 p255 p256 p257 q255 q256 q257
                obtain ⟨x8_3, rfl, HA, HK3, HO_3, HO_5, HB⟩ := hrel
                cases gk with
                | zero => exact absurd HA.out (by simp [orielref16_Taken.l2])
                | succ k3 =>
                 have H := HA.out
                 clear HA
                 simp only [orielref16_Taken.l2] at H
                 by_cases c19 : x8_3 > 0
                 ·rw [if_pos c19] at H
                  have c19b0 : decide (0 < x8_3) = true := decide_eq_true c19
                  clear c19
                  obtain ⟨ji20, hji20⟩ : ∃ j_ : Int, (wrap64 (x8_3 - 1)) = j_ := ⟨_, rfl⟩
                  replace H : (if 0 ≤ (ji20) then (if (ji20) < (x3_2.length : Int) then (if (Op.bytesLess (((rd_T41 l0 x4_1).f1).extract (((rd_T51 t252 x6_2).f1) : Int).toNat (((rd_T51 t252 x6_2).f2) : Int).toNat).toList ((rdOf ByteArray.empty x3_2 (ji20)).toList)) = true then (orielref16_Taken.l2 k3 l0 x3_2 x4_1 t252 x6_2 (((rd_T41 l0 x4_1).f1).extract (((rd_T51 t252 x6_2).f1) : Int).toNat (((rd_T51 t252 x6_2).f2) : Int).toNat) ji20) else ((some (([] : List ByteArray) : List ByteArray)).bind fun y260 => (if 0 ≤ x8_3 then (if x8_3 ≤ (x3_2.length : Int) then ((some (x3_2.take (x8_3 : Int).toNat : List ByteArray)).bind fun y263 => (if y260.length + y263.length < 8796093022208 then ((some (y260 ++ y263 : List ByteArray)).bind fun y267 => (if y267.length < 8796093022208 then ((some (y267 ++ [(((rd_T41 l0 x4_1).f1).extract (((rd_T51 t252 x6_2).f1) : Int).toNat (((rd_T51 t252 x6_2).f2) : Int).toNat)] : List ByteArray)).bind fun y270 => ((some (x3_2.drop (x8_3 : Int).toNat : List ByteArray)).bind fun y273 => (if y270.length + y273.length < 8796093022208 then (orielref16_Taken.l1 k3 l0 (y270 ++ y273) x4_1 t252 (wrap64 (x6_2 + 1))) else (none)))) else (none))) else (none))) else (none)) else (none)))) else (none)) else (none)) = some r := by (rw [hji20] at H; exact H)
                  have hji20w : (IntKind.i64.wrap (x8_3 - 1)) = ji20 := (i64_w _).trans hji20
                  by_cases c21 : 0 ≤ (ji20)
                  ·rw [if_pos c21] at H
                   have c21b0 : decide (0 ≤ (ji20)) = true := decide_eq_true c21
                   clear c21
                   by_cases c22 : (ji20) < (x3_2.length : Int)
                   ·rw [if_pos c22] at H
                    have c22b0 : decide ((ji20) < (x3_2.length : Int)) = true := decide_eq_true c22
                    clear c22
                    by_cases c23 : (Op.bytesLess (((rd_T41 l0 x4_1).f1).extract (((rd_T51 t252 x6_2).f1) : Int).toNat (((rd_T51 t252 x6_2).f2) : Int).toNat).toList ((rdOf ByteArray.empty x3_2 (ji20)).toList)) = true
                    ·rw [if_pos c23] at H
                     have c23b0 : (Op.bytesLess (((rd_T41 l0 x4_1).f1).extract (((rd_T51 t252 x6_2).f1) : Int).toNat (((rd_T51 t252 x6_2).f2) : Int).toNat).toList ((rdOf ByteArray.empty x3_2 (ji20)).toList)) = true := c23
                     clear c23
                     have H' := Aside0.mk H
                     clear H
                     have p259 : 0 ≤ ((ji20) : Int) := of_decide_eq_true (by with_reducible assumption)
                     have q259 : (ji20) < (x3_2.length : Int) := of_decide_eq_true (by with_reducible assumption)
                     obtain ⟨ad259, e259, hx259_0⟩ := Kd.at_string (Kd.R_reads' HO_3.out).2.2 (ji20) p259 q259
                     cases e259
                     replace p259 := eq_true p259
                     replace q259 := eq_true q259
                     go_wp2
                     repeat (go_quiet (fail); try go_wp2)
                     go_roundg k3
                     case measure => have := HK1.out; have := HK2.out; have := HK3.out; omega
                     case rel => exact ⟨(ji20), (by rfl), H', ⟨by have := HK1.out; have := HK2.out; have := HK3.out; omega⟩, ⟨by (with_reducible repeat (fail)); exact HO_3.out⟩, ⟨by (with_reducible repeat (fail)); exact HO_5.out⟩, ⟨by repeat (with_reducible exact HB.out)⟩⟩
                    ·rw [if_neg c23] at H
                     have c23b0 : (Op.bytesLess (((rd_T41 l0 x4_1).f1).extract (((rd_T51 t252 x6_2).f1) : Int).toNat (((rd_T51 t252 x6_2).f2) : Int).toNat).toList ((rdOf ByteArray.empty x3_2 (ji20)).toList)) = false := by simpa using c23
                     clear c23
                     obtain ⟨y260, hy260⟩ : ∃ y_ : List ByteArray, y_ = (([] : List ByteArray)) := ⟨_, rfl⟩
                     replace H : (if 0 ≤ x8_3 then (if x8_3 ≤ (x3_2.length : Int) then ((some (x3_2.take (x8_3 : Int).toNat : List ByteArray)).bind fun y263 => (if y260.length + y263.length < 8796093022208 then ((some (y260 ++ y263 : List ByteArray)).bind fun y267 => (if y267.length < 8796093022208 then ((some (y267 ++ [(((rd_T41 l0 x4_1).f1).extract (((rd_T51 t252 x6_2).f1) : Int).toNat (((rd_T51 t252 x6_2).f2) : Int).toNat)] : List ByteArray)).bind fun y270 => ((some (x3_2.drop (x8_3 : Int).toNat : List ByteArray)).bind fun y273 => (if y270.length + y273.length < 8796093022208 then (orielref16_Taken.l1 k3 l0 (y270 ++ y273) x4_1 t252 (wrap64 (x6_2 + 1))) else (none)))) else (none))) else (none))) else (none)) else (none)) = some r := by (have H2_ := (Option.bind_some _ _).symm.trans H; rw [hy260]; with_reducible exact H2_)
                     have Ny260 := Aside0.mk hy260
                     clear hy260
                     by_cases c24 : 0 ≤ x8_3
                     ·rw [if_pos c24] at H
                      have c24b0 := eq_true c24
                      have c24b1 : decide (0 ≤ x8_3) = true := decide_eq_true c24
                      clear c24
                      by_cases c25 : x8_3 ≤ (x3_2.length : Int)
                      ·rw [if_pos c25] at H
                       have c25b0 := eq_true c25
                       have c25b1 : decide (x8_3 ≤ (x3_2.length : Int)) = true := decide_eq_true c25
                       clear c25
                       obtain ⟨y263, hy263⟩ : ∃ y_ : List ByteArray, y_ = (x3_2.take (x8_3 : Int).toNat) := ⟨_, rfl⟩
                       replace H : (if y260.length + y263.length < 8796093022208 then ((some (y260 ++ y263 : List ByteArray)).bind fun y267 => (if y267.length < 8796093022208 then ((some (y267 ++ [(((rd_T41 l0 x4_1).f1).extract (((rd_T51 t252 x6_2).f1) : Int).toNat (((rd_T51 t252 x6_2).f2) : Int).toNat)] : List ByteArray)).bind fun y270 => ((some (x3_2.drop (x8_3 : Int).toNat : List ByteArray)).bind fun y273 => (if y270.length + y273.length < 8796093022208 then (orielref16_Taken.l1 k3 l0 (y270 ++ y273) x4_1 t252 (wrap64 (x6_2 + 1))) else (none)))) else (none))) else (none)) = some r := by (have H2_ := (Option.bind_some _ _).symm.trans H; rw [hy263]; with_reducible exact H2_)
                       have Ny263 := Aside0.mk hy263
                       clear hy263
                       by_cases c26 : y260.length + y263.length < 8796093022208
                       ·rw [if_pos c26] at H
                        have LMc26 := Aside0.mk c26
                        clear c26
                        obtain ⟨y267, hy267⟩ : ∃ y_ : List ByteArray, y_ = (y260 ++ y263) := ⟨_, rfl⟩
                        replace H : (if y267.length < 8796093022208 then ((some (y267 ++ [(((rd_T41 l0 x4_1).f1).extract (((rd_T51 t252 x6_2).f1) : Int).toNat (((rd_T51 t252 x6_2).f2) : Int).toNat)] : List ByteArray)).bind fun y270 => ((some (x3_2.drop (x8_3 : Int).toNat : List ByteArray)).bind fun y273 => (if y270.length + y273.length < 8796093022208 then (orielref16_Taken.l1 k3 l0 (y270 ++ y273) x4_1 t252 (wrap64 (x6_2 + 1))) else (none)))) else (none)) = some r := by (have H2_ := (Option.bind_some _ _).symm.trans H; rw [hy267]; with_reducible exact H2_)
                        have Ny267 := Aside0.mk hy267
                        clear hy267
                        by_cases c27 : y267.length < 8796093022208
                        ·rw [if_pos c27] at H
                         have LMc27 := Aside0.mk c27
                         clear c27
                         obtain ⟨y270, hy270⟩ : ∃ y_ : List ByteArray, y_ = (y267 ++ [(((rd_T41 l0 x4_1).f1).extract (((rd_T51 t252 x6_2).f1) : Int).toNat (((rd_T51 t252 x6_2).f2) : Int).toNat)]) := ⟨_, rfl⟩
                         replace H : ((some (x3_2.drop (x8_3 : Int).toNat : List ByteArray)).bind fun y273 => (if y270.length + y273.length < 8796093022208 then (orielref16_Taken.l1 k3 l0 (y270 ++ y273) x4_1 t252 (wrap64 (x6_2 + 1))) else (none))) = some r := by (have H2_ := (Option.bind_some _ _).symm.trans H; rw [hy270]; with_reducible exact H2_)
                         have Ny270 := Aside0.mk hy270
                         clear hy270
                         have c28b0 := eq_true (of_decide_eq_true (by with_reducible assumption) : 0 ≤ x8_3)
                         have c29b0 := eq_true (of_decide_eq_true (by with_reducible assumption) : x8_3 ≤ (x3_2.length : Int))
                         obtain ⟨y273, hy273⟩ : ∃ y_ : List ByteArray, y_ = (x3_2.drop (x8_3 : Int).toNat) := ⟨_, rfl⟩
                         replace H : (if y270.length + y273.length < 8796093022208 then (orielref16_Taken.l1 k3 l0 (y270 ++ y273) x4_1 t252 (wrap64 (x6_2 + 1))) else (none)) = some r := by (have H2_ := (Option.bind_some _ _).symm.trans H; rw [hy273]; with_reducible exact H2_)
                         have Ny273 := Aside0.mk hy273
                         clear hy273
                         by_cases c30 : y270.length + y273.length < 8796093022208
                         ·rw [if_pos c30] at H
                          have LMc30 := Aside0.mk c30
                          clear c30
                          obtain ⟨y277, hy277⟩ : ∃ y_ : List ByteArray, y_ = (y270 ++ y273) := ⟨_, rfl⟩
                          replace H : (orielref16_Taken.l1 k3 l0 y277 x4_1 t252 (wrap64 (x6_2 + 1))) = some r := by (rw [hy277]; with_reducible exact H)
                          have Ny277 := Aside0.mk hy277
                          clear hy277
                          have H' := Aside0.mk H
                          clear H
                          have p259 : 0 ≤ ((ji20) : Int) := of_decide_eq_true (by with_reducible assumption)
                          have q259 : (ji20) < (x3_2.length : Int) := of_decide_eq_true (by with_reducible assumption)
                          obtain ⟨ad259, e259, hx259_0⟩ := Kd.at_string (Kd.R_reads' HO_3.out).2.2 (ji20) p259 q259
                          cases e259
                          replace p259 := eq_true p259
                          replace q259 := eq_true q259
                          go_wp2_with (first | ((with_reducible refine gate_dst (N := 62) rfl ?_); refine Kd.R_lit Kd.string _ 9 ?hg (N := 62) ?hd (xs := ([] : List ByteArray)) (inner := []) (ok := fun _ => True) (okp := fun _ => True) ?hr ?hp (fun _ hk => hk) trivial (Below.refl _ _) (Nat.le_refl _) (by simp) ?_; (case hd => rfl); (case hg => rfl); (case hr => (go_simp; done)); (case hp => exact (Reps.none _ _)); intro v261 w31 ho32 hb hg_ hnew_; clear hg_ hnew_; (rw [← Ny260.out] at ho32); have n0_ := Aside0.mk (Kd.R_elder' (by (with_reducible repeat (fail)); exact HO_3.out) (Kd.R_base ho32) hb); have n1_ := Aside0.mk (Kd.R_below (by (with_reducible repeat (fail)); exact HO_5.out) hb); have n2_ := Aside0.mk (Kd.R_lower (Kd.R_new' ho32 (Kd.R_lt (by (with_reducible repeat (fail)); exact HO_3.out))) (below_size (by repeat (with_reducible exact HB.out)))); have n3_ := Aside0.mk (below_step (by repeat (with_reducible exact HB.out)) hb); clear HO_3; clear HO_5; clear HB; have HO_3 := n0_; have HO_5 := n1_; have HO262 := n2_; have HB := n3_; clear n0_ n1_ n2_ n3_; clear hb ho32; have q33 : (x8_3 : Int) ≤ ((x3_2.length : Int) : Int) := of_decide_eq_true (by with_reducible assumption); obtain ⟨i033, hi033, _, hsz33, _⟩ := info_parts info9; have hroom33 : x3_2.length ≤ co18 := (Kd.R_reads' HO_3.out).2.1; have hC33 : Kd.C Kd.string _ (some ad259) x3_2.length x3_2 := (Kd.R_reads' HO_3.out).2.2; have hcut33 := cut_to (P := Tryz.prog) 35 9 .i64 Tryz.underlying35 hi033 (some ad259) x3_2.length co18 x8_3 (of_decide_eq_true (by with_reducible assumption)) q33 hroom33; have hr33 := Kd.C_take (m := (x8_3 : Int).toNat) hC33 (by omega); have hy33 : y263.length = (x8_3 : Int).toNat := (by rw [Ny263.out, List.length_take]; omega); rw [← Ny263.out] at hr33; rw [← hy33] at hcut33; have HR266 := Aside0.mk hr33; have HC266 := Aside0.mk (show y263.length ≤ co18 from by omega); clear hr33 hC33 hroom33 hi033 hsz33; have KY33 := Aside0.mk hy33; clear hy33; have KL33 := Aside0.mk (show (x8_3 : Int).toNat ≤ x3_2.length from by omega); replace q33 := eq_true q33) | ((with_reducible refine gate_builtin (b := .append) (xs := #[.tmp 62, .tmp 65]) rfl ?_); at_builtin; refine Kd.R_append_rows Kd.string (w0 := w) w.heap.size rfl (.tmp 62) (.tmp 65) 35 9 (.string ⟨#[]⟩) 16 rfl Tryz.underlying35 info9 rfl (by decide) (by omega) v261 y260 y263 _ _ _ (fun k_ => some k_ ≠ (.slice (some ad259) x3_2.length co18 : Value).ownBlock) (fun _ => False) rfl rfl ?aO ?aR (fun _ _ h => h) (fun _ h => h.elim) ?aF ?aB ?aS ?aL ?_; (case aR => repeat (exact (by repeat (exact HR266.out)))); (case aB => exact (by repeat (with_reducible exact HB.out))); (case aF => exact (fun k_ hk => Kd.fresh' (Kd.R_lt (by (with_reducible repeat (fail)); exact HO_3.out)) k_ hk)); (case aO => exact (by (with_reducible repeat (fail)); exact Kd.R_mono HO262.out (fun _ hk => hk.2))); (case aS => exact (below_size (by repeat (with_reducible exact HB.out)))); (case aL => have := LMc26.out; omega); intro v268 w34 ho hb hg hat; rw [← Ny267.out] at ho; have n0_ := Aside0.mk (Kd.R_after (ok := (fun _ => True)) (by (with_reducible repeat (fail)); exact HO_3.out) hg hat); have n1_ := Aside0.mk (Kd.R_over' (by (with_reducible repeat (fail)); exact HO_5.out) (Kd.R_typed (by (with_reducible repeat (fail)); exact HO262.out)) (by decide) hg); have n2_ := Aside0.mk (hb); have n3_ := Aside0.mk ((show Kd.C Kd.string w34 (some ad259) y263.length y263 from by rw [Ny263.out]; exact Kd.C_take (m := (x8_3 : Int).toNat) ((Kd.R_reads' (Kd.R_after (ok := (fun _ => True)) (by (with_reducible repeat (fail)); exact HO_3.out) hg hat)).2.2) KL33.out)); have n4_ := Aside0.mk (ho); clear HO_3; clear HO_5; clear HB; clear HR266; clear HO262; have HO_3 := n0_; have HO_5 := n1_; have HB := n2_; have HR266 := n3_; have HO269 := n4_; clear n0_ n1_ n2_ n3_ n4_; clear ho hb hg hat) | ((with_reducible refine gate_builtin (b := .append) (xs := #[.tmp 67, .tmp 69]) rfl ?_); at_builtin; refine Kd.R_append Kd.string (w0 := w) w.heap.size rfl (.tmp 67) (.tmp 69) 35 9 (.string ⟨#[]⟩) 16 rfl Tryz.underlying35 info9 rfl (by decide) (by omega) v268 y267 (((rd_T41 l0 x4_1).f1).extract (((rd_T51 t252 x6_2).f1) : Int).toNat (((rd_T51 t252 x6_2).f2) : Int).toNat) [.string (((rd_T41 l0 x4_1).f1).extract (((rd_T51 t252 x6_2).f1) : Int).toNat (((rd_T51 t252 x6_2).f2) : Int).toNat)] (fun k_ => some k_ ≠ (.slice (some ad259) x3_2.length co18 : Value).ownBlock) (fun _ => False) rfl rfl ?aP (fun _ hk => hk.elim) ?aF ?aO ?aB ?aS ?aL ?_; (case aP => exact rfl); (case aB => exact (by repeat (with_reducible exact HB.out))); (case aF => exact (fun k_ hk => Kd.fresh' (Kd.R_lt (by (with_reducible repeat (fail)); exact HO_3.out)) k_ hk)); (case aO => exact (by (with_reducible repeat (fail)); exact HO269.out)); (case aS => exact (below_size (by repeat (with_reducible exact HB.out)))); (case aL => have := LMc27.out; omega); intro v271 w35 ho hb hg hat; rw [← Ny270.out] at ho; have n0_ := Aside0.mk (Kd.R_after (ok := (fun _ => True)) (by (with_reducible repeat (fail)); exact HO_3.out) hg hat); have n1_ := Aside0.mk (Kd.R_over' (by (with_reducible repeat (fail)); exact HO_5.out) (Kd.R_typed (by (with_reducible repeat (fail)); exact HO269.out)) (by decide) hg); have n2_ := Aside0.mk (hb); have n3_ := Aside0.mk ((show Kd.C Kd.string w35 (some ad259) y263.length y263 from by rw [Ny263.out]; exact Kd.C_take (m := (x8_3 : Int).toNat) ((Kd.R_reads' (Kd.R_after (ok := (fun _ => True)) (by (with_reducible repeat (fail)); exact HO_3.out) hg hat)).2.2) KL33.out)); have n4_ := Aside0.mk (ho); clear HO_3; clear HO_5; clear HB; clear HR266; clear HO269; have HO_3 := n0_; have HO_5 := n1_; have HB := n2_; have HR266 := n3_; have HO272 := n4_; clear n0_ n1_ n2_ n3_ n4_; clear ho hb hg hat; have q36 : (x8_3 : Int) ≤ ((x3_2.length : Int) : Int) := of_decide_eq_true (by with_reducible assumption); obtain ⟨i036, hi036, _, hsz36, _⟩ := info_parts info9; have hroom36 : x3_2.length ≤ co18 := (Kd.R_reads' HO_3.out).2.1; have hC36 : Kd.C Kd.string _ (some ad259) x3_2.length x3_2 := (Kd.R_reads' HO_3.out).2.2; have q036 : (0 : Int) ≤ (x8_3 : Int) := of_decide_eq_true (by with_reducible assumption); have hcut36 := cut_from (P := Tryz.prog) 35 9 .i64 Tryz.underlying35 hi036 1 hsz36 (some ad259) x3_2.length co18 x8_3 q036 q36; have hr36 := Kd.C_drop (m := (x8_3 : Int).toNat) (c := co18) hC36 (by omega) hroom36; obtain ⟨A36, hA36⟩ : ∃ A1, A1 = (if co18 = (x8_3 : Int).toNat then (some ad259) else ((some ad259) : Option Addr).map (·.add ((x8_3 : Int).toNat * 1))) := ⟨_, rfl⟩; obtain ⟨c36, hc36⟩ : ∃ c1, c1 = co18 - (x8_3 : Int).toNat := ⟨_, rfl⟩; have hy36 : y273.length = x3_2.length - (x8_3 : Int).toNat := (by rw [Ny273.out, List.length_drop] <;> omega); rw [show (x3_2).drop (x8_3 : Int).toNat = y273 from Ny273.out.symm] at hr36; replace hr36 : Kd.C Kd.string _ A36 y273.length y273 := (by rw [hA36]; exact hr36); rw [← hy36, ← hA36, ← hc36] at hcut36; have HR276 := Aside0.mk hr36; have HC276 := Aside0.mk (show y273.length ≤ c36 from by rw [hy36, hc36]; exact Nat.sub_le_sub_right hroom36 _); clear hr36 hC36 hroom36 hi036 hsz36 hc36; have KY36 := Aside0.mk hy36; have KA36 := Aside0.mk hA36; clear hy36 hA36; have KL36 := Aside0.mk (show (x8_3 : Int).toNat ≤ x3_2.length from by omega); replace q36 := eq_true q36) | ((with_reducible refine gate_builtin (b := .append) (xs := #[.tmp 71, .tmp 74]) rfl ?_); at_builtin; refine Kd.R_append_rows Kd.string (w0 := w) w.heap.size rfl (.tmp 71) (.tmp 74) 35 9 (.string ⟨#[]⟩) 16 rfl Tryz.underlying35 info9 rfl (by decide) (by omega) v271 y270 y273 _ _ _ (fun k_ => some k_ ≠ (.slice (some ad259) x3_2.length co18 : Value).ownBlock) (fun _ => False) rfl rfl ?aO ?aR (fun _ _ h => h) (fun _ h => h.elim) ?aF ?aB ?aS ?aL ?_; (case aR => repeat (exact (by repeat (exact HR276.out)))); (case aB => exact (by repeat (with_reducible exact HB.out))); (case aF => exact (fun k_ hk => Kd.fresh' (Kd.R_lt (by (with_reducible repeat (fail)); exact HO_3.out)) k_ hk)); (case aO => exact (by (with_reducible repeat (fail)); exact HO272.out)); (case aS => exact (below_size (by repeat (with_reducible exact HB.out)))); (case aL => have := LMc30.out; omega); intro v278 w37 ho hb hg hat; rw [← Ny277.out] at ho; have n0_ := Aside0.mk (Kd.R_after (ok := (fun _ => True)) (by (with_reducible repeat (fail)); exact HO_3.out) hg hat); have n1_ := Aside0.mk (Kd.R_over' (by (with_reducible repeat (fail)); exact HO_5.out) (Kd.R_typed (by (with_reducible repeat (fail)); exact HO272.out)) (by decide) hg); have n2_ := Aside0.mk (hb); have n3_ := Aside0.mk ((show Kd.C Kd.string w37 (some ad259) y263.length y263 from by rw [Ny263.out]; exact Kd.C_take (m := (x8_3 : Int).toNat) ((Kd.R_reads' (Kd.R_after (ok := (fun _ => True)) (by (with_reducible repeat (fail)); exact HO_3.out) hg hat)).2.2) KL33.out)); have n4_ := Aside0.mk ((show Kd.C Kd.string w37 A36 y273.length y273 from by rw [Ny273.out, KA36.out]; exact Kd.C_drop (m := (x8_3 : Int).toNat) (c := co18) ((Kd.R_reads' (Kd.R_after (ok := (fun _ => True)) (by (with_reducible repeat (fail)); exact HO_3.out) hg hat)).2.2) KL36.out ((Kd.R_reads' (Kd.R_after (ok := (fun _ => True)) (by (with_reducible repeat (fail)); exact HO_3.out) hg hat)).2.1))); have n5_ := Aside0.mk (ho); clear HO_3; clear HO_5; clear HB; clear HR266; clear HR276; clear HO272; have HO_3 := n0_; have HO_5 := n1_; have HB := n2_; have HR266 := n3_; have HR276 := n4_; have HO279 := n5_; clear n0_ n1_ n2_ n3_ n4_ n5_; clear ho hb hg hat))
                          repeat (go_quiet (fail); try go_wp2_with (fail))
                          go_roundg k3
                          case measure => have := HK1.out; have := HK2.out; have := HK3.out; omega
                          case rel => exact ⟨(y277), (wrap64 (x6_2 + 1)), (by rfl), H', ⟨by have := HK1.out; have := HK2.out; have := HK3.out; omega⟩, ⟨by (with_reducible repeat (fail)); exact Kd.R_mono HO279.out (fun _ hk => trivial)⟩, ⟨by (with_reducible repeat (fail)); exact HO_5.out⟩, ⟨by repeat (with_reducible exact HB.out)⟩⟩
                         ·rw [if_neg c30] at H
                          exact absurd H (by simp)
                        ·rw [if_neg c27] at H
                         exact absurd H (by simp)
                       ·rw [if_neg c26] at H
                        exact absurd H (by simp)
                      ·rw [if_neg c25] at H
                       exact absurd H (by simp)
                     ·rw [if_neg c24] at H
                      exact absurd H (by simp)
                   ·rw [if_neg c22] at H
                    exact absurd H (by simp)
                  ·rw [if_neg c21] at H
                   exact absurd H (by simp)
                 ·rw [if_neg c19] at H
                  have c19b0 : decide (0 < x8_3) = false := decide_eq_false c19
                  clear c19
                  obtain ⟨y280, hy280⟩ : ∃ y_ : List ByteArray, y_ = (([] : List ByteArray)) := ⟨_, rfl⟩
                  replace H : (if 0 ≤ x8_3 then (if x8_3 ≤ (x3_2.length : Int) then ((some (x3_2.take (x8_3 : Int).toNat : List ByteArray)).bind fun y283 => (if y280.length + y283.length < 8796093022208 then ((some (y280 ++ y283 : List ByteArray)).bind fun y287 => (if y287.length < 8796093022208 then ((some (y287 ++ [(((rd_T41 l0 x4_1).f1).extract (((rd_T51 t252 x6_2).f1) : Int).toNat (((rd_T51 t252 x6_2).f2) : Int).toNat)] : List ByteArray)).bind fun y290 => ((some (x3_2.drop (x8_3 : Int).toNat : List ByteArray)).bind fun y293 => (if y290.length + y293.length < 8796093022208 then (orielref16_Taken.l1 k3 l0 (y290 ++ y293) x4_1 t252 (wrap64 (x6_2 + 1))) else (none)))) else (none))) else (none))) else (none)) else (none)) = some r := by (have H2_ := (Option.bind_some _ _).symm.trans H; rw [hy280]; with_reducible exact H2_)
                  have Ny280 := Aside0.mk hy280
                  clear hy280
                  by_cases c38 : 0 ≤ x8_3
                  ·rw [if_pos c38] at H
                   have c38b0 := eq_true c38
                   have c38b1 : decide (0 ≤ x8_3) = true := decide_eq_true c38
                   clear c38
                   by_cases c39 : x8_3 ≤ (x3_2.length : Int)
                   ·rw [if_pos c39] at H
                    have c39b0 := eq_true c39
                    have c39b1 : decide (x8_3 ≤ (x3_2.length : Int)) = true := decide_eq_true c39
                    clear c39
                    obtain ⟨y283, hy283⟩ : ∃ y_ : List ByteArray, y_ = (x3_2.take (x8_3 : Int).toNat) := ⟨_, rfl⟩
                    replace H : (if y280.length + y283.length < 8796093022208 then ((some (y280 ++ y283 : List ByteArray)).bind fun y287 => (if y287.length < 8796093022208 then ((some (y287 ++ [(((rd_T41 l0 x4_1).f1).extract (((rd_T51 t252 x6_2).f1) : Int).toNat (((rd_T51 t252 x6_2).f2) : Int).toNat)] : List ByteArray)).bind fun y290 => ((some (x3_2.drop (x8_3 : Int).toNat : List ByteArray)).bind fun y293 => (if y290.length + y293.length < 8796093022208 then (orielref16_Taken.l1 k3 l0 (y290 ++ y293) x4_1 t252 (wrap64 (x6_2 + 1))) else (none)))) else (none))) else (none)) = some r := by (have H2_ := (Option.bind_some _ _).symm.trans H; rw [hy283]; with_reducible exact H2_)
                    have Ny283 := Aside0.mk hy283
                    clear hy283
                    by_cases c40 : y280.length + y283.length < 8796093022208
                    ·rw [if_pos c40] at H
                     have LMc40 := Aside0.mk c40
                     clear c40
                     obtain ⟨y287, hy287⟩ : ∃ y_ : List ByteArray, y_ = (y280 ++ y283) := ⟨_, rfl⟩
                     replace H : (if y287.length < 8796093022208 then ((some (y287 ++ [(((rd_T41 l0 x4_1).f1).extract (((rd_T51 t252 x6_2).f1) : Int).toNat (((rd_T51 t252 x6_2).f2) : Int).toNat)] : List ByteArray)).bind fun y290 => ((some (x3_2.drop (x8_3 : Int).toNat : List ByteArray)).bind fun y293 => (if y290.length + y293.length < 8796093022208 then (orielref16_Taken.l1 k3 l0 (y290 ++ y293) x4_1 t252 (wrap64 (x6_2 + 1))) else (none)))) else (none)) = some r := by (have H2_ := (Option.bind_some _ _).symm.trans H; rw [hy287]; with_reducible exact H2_)
                     have Ny287 := Aside0.mk hy287
                     clear hy287
                     by_cases c41 : y287.length < 8796093022208
                     ·rw [if_pos c41] at H
                      have LMc41 := Aside0.mk c41
                      clear c41
                      obtain ⟨y290, hy290⟩ : ∃ y_ : List ByteArray, y_ = (y287 ++ [(((rd_T41 l0 x4_1).f1).extract (((rd_T51 t252 x6_2).f1) : Int).toNat (((rd_T51 t252 x6_2).f2) : Int).toNat)]) := ⟨_, rfl⟩
                      replace H : ((some (x3_2.drop (x8_3 : Int).toNat : List ByteArray)).bind fun y293 => (if y290.length + y293.length < 8796093022208 then (orielref16_Taken.l1 k3 l0 (y290 ++ y293) x4_1 t252 (wrap64 (x6_2 + 1))) else (none))) = some r := by (have H2_ := (Option.bind_some _ _).symm.trans H; rw [hy290]; with_reducible exact H2_)
                      have Ny290 := Aside0.mk hy290
                      clear hy290
                      have c42b0 := eq_true (of_decide_eq_true (by with_reducible assumption) : 0 ≤ x8_3)
                      have c43b0 := eq_true (of_decide_eq_true (by with_reducible assumption) : x8_3 ≤ (x3_2.length : Int))
                      obtain ⟨y293, hy293⟩ : ∃ y_ : List ByteArray, y_ = (x3_2.drop (x8_3 : Int).toNat) := ⟨_, rfl⟩
                      replace H : (if y290.length + y293.length < 8796093022208 then (orielref16_Taken.l1 k3 l0 (y290 ++ y293) x4_1 t252 (wrap64 (x6_2 + 1))) else (none)) = some r := by (have H2_ := (Option.bind_some _ _).symm.trans H; rw [hy293]; with_reducible exact H2_)
                      have Ny293 := Aside0.mk hy293
                      clear hy293
                      by_cases c44 : y290.length + y293.length < 8796093022208
                      ·rw [if_pos c44] at H
                       have LMc44 := Aside0.mk c44
                       clear c44
                       obtain ⟨y297, hy297⟩ : ∃ y_ : List ByteArray, y_ = (y290 ++ y293) := ⟨_, rfl⟩
                       replace H : (orielref16_Taken.l1 k3 l0 y297 x4_1 t252 (wrap64 (x6_2 + 1))) = some r := by (rw [hy297]; with_reducible exact H)
                       have Ny297 := Aside0.mk hy297
                       clear hy297
                       have H' := Aside0.mk H
                       clear H
                       go_wp2_with (first | ((with_reducible refine gate_dst (N := 62) rfl ?_); refine Kd.R_lit Kd.string _ 9 ?hg (N := 62) ?hd (xs := ([] : List ByteArray)) (inner := []) (ok := fun _ => True) (okp := fun _ => True) ?hr ?hp (fun _ hk => hk) trivial (Below.refl _ _) (Nat.le_refl _) (by simp) ?_; (case hd => rfl); (case hg => rfl); (case hr => (go_simp; done)); (case hp => exact (Reps.none _ _)); intro v281 w45 ho46 hb hg_ hnew_; clear hg_ hnew_; (rw [← Ny280.out] at ho46); have n0_ := Aside0.mk (Kd.R_elder' (by (with_reducible repeat (fail)); exact HO_3.out) (Kd.R_base ho46) hb); have n1_ := Aside0.mk (Kd.R_below (by (with_reducible repeat (fail)); exact HO_5.out) hb); have n2_ := Aside0.mk (Kd.R_lower (Kd.R_new' ho46 (Kd.R_lt (by (with_reducible repeat (fail)); exact HO_3.out))) (below_size (by repeat (with_reducible exact HB.out)))); have n3_ := Aside0.mk (below_step (by repeat (with_reducible exact HB.out)) hb); clear HO_3; clear HO_5; clear HB; have HO_3 := n0_; have HO_5 := n1_; have HO282 := n2_; have HB := n3_; clear n0_ n1_ n2_ n3_; clear hb ho46; have q47 : (x8_3 : Int) ≤ ((x3_2.length : Int) : Int) := of_decide_eq_true (by with_reducible assumption); obtain ⟨i047, hi047, _, hsz47, _⟩ := info_parts info9; have hroom47 : x3_2.length ≤ co18 := (Kd.R_reads' HO_3.out).2.1; have hC47 : Kd.C Kd.string _ Ao18 x3_2.length x3_2 := (Kd.R_reads' HO_3.out).2.2; have hcut47 := cut_to (P := Tryz.prog) 35 9 .i64 Tryz.underlying35 hi047 Ao18 x3_2.length co18 x8_3 (of_decide_eq_true (by with_reducible assumption)) q47 hroom47; have hr47 := Kd.C_take (m := (x8_3 : Int).toNat) hC47 (by omega); have hy47 : y283.length = (x8_3 : Int).toNat := (by rw [Ny283.out, List.length_take]; omega); rw [← Ny283.out] at hr47; rw [← hy47] at hcut47; have HR286 := Aside0.mk hr47; have HC286 := Aside0.mk (show y283.length ≤ co18 from by omega); clear hr47 hC47 hroom47 hi047 hsz47; have KY47 := Aside0.mk hy47; clear hy47; have KL47 := Aside0.mk (show (x8_3 : Int).toNat ≤ x3_2.length from by omega); replace q47 := eq_true q47) | ((with_reducible refine gate_builtin (b := .append) (xs := #[.tmp 62, .tmp 65]) rfl ?_); at_builtin; refine Kd.R_append_rows Kd.string (w0 := w) w.heap.size rfl (.tmp 62) (.tmp 65) 35 9 (.string ⟨#[]⟩) 16 rfl Tryz.underlying35 info9 rfl (by decide) (by omega) v281 y280 y283 _ _ _ (fun k_ => some k_ ≠ (.slice Ao18 x3_2.length co18 : Value).ownBlock) (fun _ => False) rfl rfl ?aO ?aR (fun _ _ h => h) (fun _ h => h.elim) ?aF ?aB ?aS ?aL ?_; (case aR => repeat (exact (by repeat (exact HR286.out)))); (case aB => exact (by repeat (with_reducible exact HB.out))); (case aF => exact (fun k_ hk => Kd.fresh' (Kd.R_lt (by (with_reducible repeat (fail)); exact HO_3.out)) k_ hk)); (case aO => exact (by (with_reducible repeat (fail)); exact Kd.R_mono HO282.out (fun _ hk => hk.2))); (case aS => exact (below_size (by repeat (with_reducible exact HB.out)))); (case aL => have := LMc40.out; omega); intro v288 w48 ho hb hg hat; rw [← Ny287.out] at ho; have n0_ := Aside0.mk (Kd.R_after (ok := (fun _ => True)) (by (with_reducible repeat (fail)); exact HO_3.out) hg hat); have n1_ := Aside0.mk (Kd.R_over' (by (with_reducible repeat (fail)); exact HO_5.out) (Kd.R_typed (by (with_reducible repeat (fail)); exact HO282.out)) (by decide) hg); have n2_ := Aside0.mk (hb); have n3_ := Aside0.mk ((show Kd.C Kd.string w48 Ao18 y283.length y283 from by rw [Ny283.out]; exact Kd.C_take (m := (x8_3 : Int).toNat) ((Kd.R_reads' (Kd.R_after (ok := (fun _ => True)) (by (with_reducible repeat (fail)); exact HO_3.out) hg hat)).2.2) KL47.out)); have n4_ := Aside0.mk (ho); clear HO_3; clear HO_5; clear HB; clear HR286; clear HO282; have HO_3 := n0_; have HO_5 := n1_; have HB := n2_; have HR286 := n3_; have HO289 := n4_; clear n0_ n1_ n2_ n3_ n4_; clear ho hb hg hat) | ((with_reducible refine gate_builtin (b := .append) (xs := #[.tmp 67, .tmp 69]) rfl ?_); at_builtin; refine Kd.R_append Kd.string (w0 := w) w.heap.size rfl (.tmp 67) (.tmp 69) 35 9 (.string ⟨#[]⟩) 16 rfl Tryz.underlying35 info9 rfl (by decide) (by omega) v288 y287 (((rd_T41 l0 x4_1).f1).extract (((rd_T51 t252 x6_2).f1) : Int).toNat (((rd_T51 t252 x6_2).f2) : Int).toNat) [.string (((rd_T41 l0 x4_1).f1).extract (((rd_T51 t252 x6_2).f1) : Int).toNat (((rd_T51 t252 x6_2).f2) : Int).toNat)] (fun k_ => some k_ ≠ (.slice Ao18 x3_2.length co18 : Value).ownBlock) (fun _ => False) rfl rfl ?aP (fun _ hk => hk.elim) ?aF ?aO ?aB ?aS ?aL ?_; (case aP => exact rfl); (case aB => exact (by repeat (with_reducible exact HB.out))); (case aF => exact (fun k_ hk => Kd.fresh' (Kd.R_lt (by (with_reducible repeat (fail)); exact HO_3.out)) k_ hk)); (case aO => exact (by (with_reducible repeat (fail)); exact HO289.out)); (case aS => exact (below_size (by repeat (with_reducible exact HB.out)))); (case aL => have := LMc41.out; omega); intro v291 w49 ho hb hg hat; rw [← Ny290.out] at ho; have n0_ := Aside0.mk (Kd.R_after (ok := (fun _ => True)) (by (with_reducible repeat (fail)); exact HO_3.out) hg hat); have n1_ := Aside0.mk (Kd.R_over' (by (with_reducible repeat (fail)); exact HO_5.out) (Kd.R_typed (by (with_reducible repeat (fail)); exact HO289.out)) (by decide) hg); have n2_ := Aside0.mk (hb); have n3_ := Aside0.mk ((show Kd.C Kd.string w49 Ao18 y283.length y283 from by rw [Ny283.out]; exact Kd.C_take (m := (x8_3 : Int).toNat) ((Kd.R_reads' (Kd.R_after (ok := (fun _ => True)) (by (with_reducible repeat (fail)); exact HO_3.out) hg hat)).2.2) KL47.out)); have n4_ := Aside0.mk (ho); clear HO_3; clear HO_5; clear HB; clear HR286; clear HO289; have HO_3 := n0_; have HO_5 := n1_; have HB := n2_; have HR286 := n3_; have HO292 := n4_; clear n0_ n1_ n2_ n3_ n4_; clear ho hb hg hat; have q50 : (x8_3 : Int) ≤ ((x3_2.length : Int) : Int) := of_decide_eq_true (by with_reducible assumption); obtain ⟨i050, hi050, _, hsz50, _⟩ := info_parts info9; have hroom50 : x3_2.length ≤ co18 := (Kd.R_reads' HO_3.out).2.1; have hC50 : Kd.C Kd.string _ Ao18 x3_2.length x3_2 := (Kd.R_reads' HO_3.out).2.2; have q050 : (0 : Int) ≤ (x8_3 : Int) := of_decide_eq_true (by with_reducible assumption); have hcut50 := cut_from (P := Tryz.prog) 35 9 .i64 Tryz.underlying35 hi050 1 hsz50 Ao18 x3_2.length co18 x8_3 q050 q50; have hr50 := Kd.C_drop (m := (x8_3 : Int).toNat) (c := co18) hC50 (by omega) hroom50; obtain ⟨A50, hA50⟩ : ∃ A1, A1 = (if co18 = (x8_3 : Int).toNat then Ao18 else (Ao18 : Option Addr).map (·.add ((x8_3 : Int).toNat * 1))) := ⟨_, rfl⟩; obtain ⟨c50, hc50⟩ : ∃ c1, c1 = co18 - (x8_3 : Int).toNat := ⟨_, rfl⟩; have hy50 : y293.length = x3_2.length - (x8_3 : Int).toNat := (by rw [Ny293.out, List.length_drop] <;> omega); rw [show (x3_2).drop (x8_3 : Int).toNat = y293 from Ny293.out.symm] at hr50; replace hr50 : Kd.C Kd.string _ A50 y293.length y293 := (by rw [hA50]; exact hr50); rw [← hy50, ← hA50, ← hc50] at hcut50; have HR296 := Aside0.mk hr50; have HC296 := Aside0.mk (show y293.length ≤ c50 from by rw [hy50, hc50]; exact Nat.sub_le_sub_right hroom50 _); clear hr50 hC50 hroom50 hi050 hsz50 hc50; have KY50 := Aside0.mk hy50; have KA50 := Aside0.mk hA50; clear hy50 hA50; have KL50 := Aside0.mk (show (x8_3 : Int).toNat ≤ x3_2.length from by omega); replace q50 := eq_true q50) | ((with_reducible refine gate_builtin (b := .append) (xs := #[.tmp 71, .tmp 74]) rfl ?_); at_builtin; refine Kd.R_append_rows Kd.string (w0 := w) w.heap.size rfl (.tmp 71) (.tmp 74) 35 9 (.string ⟨#[]⟩) 16 rfl Tryz.underlying35 info9 rfl (by decide) (by omega) v291 y290 y293 _ _ _ (fun k_ => some k_ ≠ (.slice Ao18 x3_2.length co18 : Value).ownBlock) (fun _ => False) rfl rfl ?aO ?aR (fun _ _ h => h) (fun _ h => h.elim) ?aF ?aB ?aS ?aL ?_; (case aR => repeat (exact (by repeat (exact HR296.out)))); (case aB => exact (by repeat (with_reducible exact HB.out))); (case aF => exact (fun k_ hk => Kd.fresh' (Kd.R_lt (by (with_reducible repeat (fail)); exact HO_3.out)) k_ hk)); (case aO => exact (by (with_reducible repeat (fail)); exact HO292.out)); (case aS => exact (below_size (by repeat (with_reducible exact HB.out)))); (case aL => have := LMc44.out; omega); intro v298 w51 ho hb hg hat; rw [← Ny297.out] at ho; have n0_ := Aside0.mk (Kd.R_after (ok := (fun _ => True)) (by (with_reducible repeat (fail)); exact HO_3.out) hg hat); have n1_ := Aside0.mk (Kd.R_over' (by (with_reducible repeat (fail)); exact HO_5.out) (Kd.R_typed (by (with_reducible repeat (fail)); exact HO292.out)) (by decide) hg); have n2_ := Aside0.mk (hb); have n3_ := Aside0.mk ((show Kd.C Kd.string w51 Ao18 y283.length y283 from by rw [Ny283.out]; exact Kd.C_take (m := (x8_3 : Int).toNat) ((Kd.R_reads' (Kd.R_after (ok := (fun _ => True)) (by (with_reducible repeat (fail)); exact HO_3.out) hg hat)).2.2) KL47.out)); have n4_ := Aside0.mk ((show Kd.C Kd.string w51 A50 y293.length y293 from by rw [Ny293.out, KA50.out]; exact Kd.C_drop (m := (x8_3 : Int).toNat) (c := co18) ((Kd.R_reads' (Kd.R_after (ok := (fun _ => True)) (by (with_reducible repeat (fail)); exact HO_3.out) hg hat)).2.2) KL50.out ((Kd.R_reads' (Kd.R_after (ok := (fun _ => True)) (by (with_reducible repeat (fail)); exact HO_3.out) hg hat)).2.1))); have n5_ := Aside0.mk (ho); clear HO_3; clear HO_5; clear HB; clear HR286; clear HR296; clear HO292; have HO_3 := n0_; have HO_5 := n1_; have HB := n2_; have HR286 := n3_; have HR296 := n4_; have HO299 := n5_; clear n0_ n1_ n2_ n3_ n4_ n5_; clear ho hb hg hat))
                       repeat (go_quiet (fail); try go_wp2_with (fail))
                       go_roundg k3
                       case measure => have := HK1.out; have := HK2.out; have := HK3.out; omega
                       case rel => exact ⟨(y297), (wrap64 (x6_2 + 1)), (by rfl), H', ⟨by have := HK1.out; have := HK2.out; have := HK3.out; omega⟩, ⟨by (with_reducible repeat (fail)); exact Kd.R_mono HO299.out (fun _ hk => trivial)⟩, ⟨by (with_reducible repeat (fail)); exact HO_5.out⟩, ⟨by repeat (with_reducible exact HB.out)⟩⟩
                      ·rw [if_neg c44] at H
                       exact absurd H (by simp)
                     ·rw [if_neg c41] at H
                      exact absurd H (by simp)
                    ·rw [if_neg c40] at H
                     exact absurd H (by simp)
                   ·rw [if_neg c39] at H
                    exact absurd H (by simp)
                  ·rw [if_neg c38] at H
                   exact absurd H (by simp)
             ·rw [if_neg c12] at H
              exact absurd H (by simp)
            ·rw [if_neg c11] at H
             exact absurd H (by simp)
           ·rw [if_neg c10] at H
            exact absurd H (by simp)
          ·rw [if_neg c9] at H
           exact absurd H (by simp)
         ·rw [if_neg c8] at H
          exact absurd H (by simp)
        ·rw [if_neg c7] at H
         exact absurd H (by simp)
       ·rw [if_neg c6] at H
        have c6b0 : decide (x6_2 < (t252.length : Int)) = false := decide_eq_false c6
        clear c6
        have H' := Aside0.mk H
        clear H
        obtain ⟨Ao52, co52, eo52⟩ := Kd.R_slice HO_5.out
        subst eo52
        go_wp2
        repeat (go_quiet (fail); try go_wp2)
        go_roundg k2
        case measure => have := HK1.out; have := HK2.out; omega
        case rel => exact ⟨(x3_2), (wrap64 (x4_1 + 1)), (by rfl), H', ⟨by have := HK1.out; have := HK2.out; omega⟩, ⟨by (with_reducible repeat (fail)); exact HO_3.out⟩, ⟨by repeat (with_reducible exact HB.out)⟩⟩
    ·rw [if_neg c3] at H
     exact absurd H (by simp)
   ·rw [if_neg c2] at H
    have c2b0 : decide (x4_1 < (l0.length : Int)) = false := decide_eq_false c2
    clear c2
    obtain rfl := Option.some.inj H
    go_wp2
    repeat (go_quiet (fail); try go_wp2)
    go_ret
    exact ⟨_, by rfl, by (with_reducible repeat (fail)); exact HO_3.out, by repeat (with_reducible exact HB.out)⟩

end Go.Proofs.YtfccifekaokibaaGreatDoor.QT

