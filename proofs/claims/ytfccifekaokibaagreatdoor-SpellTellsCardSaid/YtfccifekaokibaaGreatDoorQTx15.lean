-- Laid by this claim's own program (mprint.py in the repo).
import Derived.Test.YtfccifekaokibaaGreatDoorQTx0
import Derived.Test.YtfccifekaokibaaGreatDoorQTx12
import Derived.Test.YtfccifekaokibaaGreatDoorQTx13
import Derived.Test.YtfccifekaokibaaGreatDoorQTx14
namespace Go.Proofs.YtfccifekaokibaaGreatDoor.QT
open Go.RowKit Go.Proofs.YtfccifekaokibaaGreatDoorW.PrintWords Go.Proofs.YtfccifekaokibaaGreatDoorW.PrintLast Go.Proofs.YtfccifekaokibaaGreatDoorW.PrintMore
attribute [local go_sem] max2_int min2_int max_two min_two max_three min_three max_four min_four   -- for this text's walks alone
set_option linter.unusedVariables false
set_option linter.unusedSimpArgs false

/-! ### orielref05_Next: function 60 -/
mutual
def orielref05_Next.l0 : Nat → ByteArray → Int → Int → Int → Option (Int × Int × Int)
 | 0, _, _, _, _ => none
 | k + 1, x0, x215000, x215001, x215002 => if x215002 < (x0.size : Int) then (if 0 ≤ x215002 then ((orielref05_blank.f (bt x0 x215002)).bind fun t216 => (if t216 = true then (orielref05_Next.l0 k x0 x215000 x215001 (wrap64 (x215002 + 1))) else (some (x215000, x215001, x215002)))) else (none)) else (some (x215000, x215001, x215002))
def orielref05_Next.j1 : Nat → ByteArray → Int → Int → Bool → Int → Int → Int → Option (Int × Int × Int)
 | 0, _, _, _, _, _, _, _ => none
 | k + 1, x0, x1, x5, x53, x215000, x215001, x215002 => if x53 = true then ((orielref05_note.f k x0 x1).bind fun t217 => (if t217 > 0 then (some (2, x215001, t217)) else (some (x215000, x215001, (x0.size : Int))))) else (if x5 = 34 then ((orielref05_text.f k x0 x1).bind fun t218 => (if t218 > 0 then (some (5, x215001, t218)) else (orielref05_Next.l1 k x0 x215000 x215001 x215002))) else ((orielref04_Rest.f x5).bind fun t219 => (if t219 = true then ((orielref05_digit.f x5).bind fun t220 => (orielref05_Next.l2 k x0 x1 t220 x215000 x215001 x215002)) else ((orielref04_Signs.f k x5).bind fun t224 => (if t224 = true then (orielref05_Next.l3 k x0 x1 x215000 x215001 x215002) else (if 0 ≤ x1 then (if x1 ≤ x215002 then (if x215002 ≤ (x0.size : Int) then ((orielref04_Kind.f k (x0.extract (x1 : Int).toNat (x215002 : Int).toNat)).bind fun t228 => (if t228 = 0 then (some (x215000, x215001, x215002)) else (some (t228, x215001, x215002)))) else (none)) else (none)) else (none)))))))
def orielref05_Next.l1 : Nat → ByteArray → Int → Int → Int → Option (Int × Int × Int)
 | 0, _, _, _, _ => none
 | k + 1, x0, x215000, x215001, x215002 => if x215002 < (x0.size : Int) then (if 0 ≤ x215002 then (if (bt x0 x215002) = 10 then (some (x215000, x215001, x215002)) else (orielref05_Next.l1 k x0 x215000 x215001 (wrap64 (x215002 + 1)))) else (none)) else (some (x215000, x215001, x215002))
def orielref05_Next.j4 : Nat → ByteArray → Int → Bool → Int → Int → Int → Option (Int × Int × Int)
 | 0, _, _, _, _, _, _ => none
 | k + 1, x0, x1, x9, x215000, x215001, x215002 => if x9 = true then (some (4, x215001, x215002)) else (if 0 ≤ x1 then (if x1 ≤ x215002 then (if x215002 ≤ (x0.size : Int) then ((orielref04_Kind.f k (x0.extract (x1 : Int).toNat (x215002 : Int).toNat)).bind fun t223 => (if t223 = 0 then (some (x215000, x215001, x215002)) else (some (t223, x215001, x215002)))) else (none)) else (none)) else (none))
def orielref05_Next.l2 : Nat → ByteArray → Int → Bool → Int → Int → Int → Option (Int × Int × Int)
 | 0, _, _, _, _, _, _ => none
 | k + 1, x0, x1, x9, x215000, x215001, x215002 => if x215002 < (x0.size : Int) then (if 0 ≤ x215002 then ((orielref04_Rest.f (bt x0 x215002)).bind fun t221 => (if t221 = true then (if x9 = true then ((orielref05_digit.f (bt x0 x215002)).bind fun t222 => (orielref05_Next.l2 k x0 x1 t222 x215000 x215001 (wrap64 (x215002 + 1)))) else (orielref05_Next.l2 k x0 x1 false x215000 x215001 (wrap64 (x215002 + 1)))) else (orielref05_Next.j4 k x0 x1 x9 x215000 x215001 x215002))) else (none)) else (orielref05_Next.j4 k x0 x1 x9 x215000 x215001 x215002)
def orielref05_Next.l3 : Nat → ByteArray → Int → Int → Int → Int → Option (Int × Int × Int)
 | 0, _, _, _, _, _ => none
 | k + 1, x0, x1, x215000, x215001, x215002 => if x215002 < (x0.size : Int) then (if 0 ≤ x215002 then ((orielref04_Signs.f k (bt x0 x215002)).bind fun t225 => (if t225 = true then (orielref05_Next.l3 k x0 x1 x215000 x215001 (wrap64 (x215002 + 1))) else (if 0 ≤ x1 then (if x1 ≤ x215002 then (if x215002 ≤ (x0.size : Int) then ((orielref04_Kind.f k (x0.extract (x1 : Int).toNat (x215002 : Int).toNat)).bind fun t226 => (if t226 = 0 then (some (x215000, x215001, x215002)) else (some (t226, x215001, x215002)))) else (none)) else (none)) else (none)))) else (none)) else (if 0 ≤ x1 then (if x1 ≤ x215002 then (if x215002 ≤ (x0.size : Int) then ((orielref04_Kind.f k (x0.extract (x1 : Int).toNat (x215002 : Int).toNat)).bind fun t227 => (if t227 = 0 then (some (x215000, x215001, x215002)) else (some (t227, x215001, x215002)))) else (none)) else (none)) else (none))
end
def orielref05_Next.f (k : Nat) (a0 : ByteArray) (a1 : Int) : Option (Int × Int × Int) := if 0 ≤ a1 then (if a1 < (a0.size : Int) then ((orielref05_blank.f (bt a0 a1)).bind fun t215 => (if t215 = true then (orielref05_Next.l0 k a0 1 a1 (wrap64 (a1 + 1))) else (if (bt a0 a1) = 40 then (if (wrap64 (a1 + 1)) < (a0.size : Int) then (if 0 ≤ (wrap64 (a1 + 1)) then (orielref05_Next.j1 k a0 a1 (bt a0 a1) ((bt a0 (wrap64 (a1 + 1))) == 42) 3 a1 (wrap64 (a1 + 1))) else (none)) else (orielref05_Next.j1 k a0 a1 (bt a0 a1) false 3 a1 (wrap64 (a1 + 1)))) else (orielref05_Next.j1 k a0 a1 (bt a0 a1) false 3 a1 (wrap64 (a1 + 1)))))) else (none)) else (none)
theorem orielref05_Next.mono_l : ∀ k, (∀ y0 y1 y2 y3, LeO (orielref05_Next.l0 k y0 y1 y2 y3) (orielref05_Next.l0 (k + 1) y0 y1 y2 y3)) ∧ (∀ y0 y1 y2 y3 y4 y5 y6, LeO (orielref05_Next.j1 k y0 y1 y2 y3 y4 y5 y6) (orielref05_Next.j1 (k + 1) y0 y1 y2 y3 y4 y5 y6)) ∧ (∀ y0 y1 y2 y3, LeO (orielref05_Next.l1 k y0 y1 y2 y3) (orielref05_Next.l1 (k + 1) y0 y1 y2 y3)) ∧ (∀ y0 y1 y2 y3 y4 y5, LeO (orielref05_Next.j4 k y0 y1 y2 y3 y4 y5) (orielref05_Next.j4 (k + 1) y0 y1 y2 y3 y4 y5)) ∧ (∀ y0 y1 y2 y3 y4 y5, LeO (orielref05_Next.l2 k y0 y1 y2 y3 y4 y5) (orielref05_Next.l2 (k + 1) y0 y1 y2 y3 y4 y5)) ∧ (∀ y0 y1 y2 y3 y4, LeO (orielref05_Next.l3 k y0 y1 y2 y3 y4) (orielref05_Next.l3 (k + 1) y0 y1 y2 y3 y4))
 | 0 => ⟨fun _ _ _ _ r h => by simp [orielref05_Next.l0] at h, fun _ _ _ _ _ _ _ r h => by simp [orielref05_Next.j1] at h, fun _ _ _ _ r h => by simp [orielref05_Next.l1] at h, fun _ _ _ _ _ _ r h => by simp [orielref05_Next.j4] at h, fun _ _ _ _ _ _ r h => by simp [orielref05_Next.l2] at h, fun _ _ _ _ _ r h => by simp [orielref05_Next.l3] at h⟩
 | k + 1 => by
  obtain ⟨ih0, ih1, ih2, ih3, ih4, ih5⟩ := orielref05_Next.mono_l k
  refine ⟨?_, ?_, ?_, ?_, ?_, ?_⟩
  ·intro y0 y1 y2 y3
   unfold orielref05_Next.l0
   repeat' first
   | (with_reducible exact ih0 _ _ _ _)
   | (with_reducible exact LeO.refl _)
   | (with_reducible refine LeO.ite ?_ ?_)
   | (with_reducible refine LeO.bind ?_ (fun _ => ?_))
  ·intro y0 y1 y2 y3 y4 y5 y6
   unfold orielref05_Next.j1
   repeat' first
   | (with_reducible exact ih2 _ _ _ _)
   | (with_reducible exact ih4 _ _ _ _ _ _)
   | (with_reducible exact ih5 _ _ _ _ _)
   | (with_reducible exact orielref04_Kind.mono _ _)
   | (with_reducible exact orielref04_Signs.mono _ _)
   | (with_reducible exact orielref05_note.mono _ _ _)
   | (with_reducible exact orielref05_text.mono _ _ _)
   | (with_reducible exact LeO.refl _)
   | (with_reducible refine LeO.ite ?_ ?_)
   | (with_reducible refine LeO.bind ?_ (fun _ => ?_))
  ·intro y0 y1 y2 y3
   unfold orielref05_Next.l1
   repeat' first
   | (with_reducible exact ih2 _ _ _ _)
   | (with_reducible exact LeO.refl _)
   | (with_reducible refine LeO.ite ?_ ?_)
  ·intro y0 y1 y2 y3 y4 y5
   unfold orielref05_Next.j4
   repeat' first
   | (with_reducible exact orielref04_Kind.mono _ _)
   | (with_reducible exact LeO.refl _)
   | (with_reducible refine LeO.ite ?_ ?_)
   | (with_reducible refine LeO.bind ?_ (fun _ => ?_))
  ·intro y0 y1 y2 y3 y4 y5
   unfold orielref05_Next.l2
   repeat' first
   | (with_reducible exact ih3 _ _ _ _ _ _)
   | (with_reducible exact ih4 _ _ _ _ _ _)
   | (with_reducible exact LeO.refl _)
   | (with_reducible refine LeO.ite ?_ ?_)
   | (with_reducible refine LeO.bind ?_ (fun _ => ?_))
  ·intro y0 y1 y2 y3 y4
   unfold orielref05_Next.l3
   repeat' first
   | (with_reducible exact ih5 _ _ _ _ _)
   | (with_reducible exact orielref04_Kind.mono _ _)
   | (with_reducible exact orielref04_Signs.mono _ _)
   | (with_reducible exact LeO.refl _)
   | (with_reducible refine LeO.ite ?_ ?_)
   | (with_reducible refine LeO.bind ?_ (fun _ => ?_))
theorem orielref05_Next.mono : ∀ a0 a1 k, LeO (orielref05_Next.f k a0 a1) (orielref05_Next.f (k + 1) a0 a1) := by
 intro a0 a1 k
 obtain ⟨ih0, ih1, ih2, ih3, ih4, ih5⟩ := orielref05_Next.mono_l k
 unfold orielref05_Next.f
 repeat' first
   | (with_reducible exact ih0 _ _ _ _)
   | (with_reducible exact ih1 _ _ _ _ _ _ _)
   | (with_reducible exact LeO.refl _)
   | (with_reducible refine LeO.ite ?_ ?_)
   | (with_reducible refine LeO.bind ?_ (fun _ => ?_))
set_option maxHeartbeats 8000000 in
set_option maxRecDepth 100000 in
theorem orielref05_Next.calls (k : Nat) (a0 : ByteArray) (a1 : Int) (r1 : Int) (r2 : Int) (r3 : Int) (w : World) (h : orielref05_Next.f k a0 a1 = some (r1, r2, r3)) :
  Calls Tryz.prog 60 #[.string a0, .int .i64 a1] w fun e w' => e = .returned (.agg #[.int .i64 r1, .int .i64 r2, .int .i64 r3]) ∧ Below w.heap.size w w' := by
 have hu51 := Tryz.underlying51
 have HB := Aside0.mk (Below.refl w.heap.size w)
 have H : (if 0 ≤ a1 then (if a1 < (a0.size : Int) then ((orielref05_blank.f (bt a0 a1)).bind fun t215 => (if t215 = true then (orielref05_Next.l0 k a0 1 a1 (wrap64 (a1 + 1))) else (if (bt a0 a1) = 40 then (if (wrap64 (a1 + 1)) < (a0.size : Int) then (if 0 ≤ (wrap64 (a1 + 1)) then (orielref05_Next.j1 k a0 a1 (bt a0 a1) ((bt a0 (wrap64 (a1 + 1))) == 42) 3 a1 (wrap64 (a1 + 1))) else (none)) else (orielref05_Next.j1 k a0 a1 (bt a0 a1) false 3 a1 (wrap64 (a1 + 1)))) else (orielref05_Next.j1 k a0 a1 (bt a0 a1) false 3 a1 (wrap64 (a1 + 1)))))) else (none)) else (none)) = some (r1, r2, r3) := h
 clear h
 by_cases c3 : 0 ≤ a1
 ·rw [if_pos c3] at H
  have c3b0 : decide (0 ≤ a1) = true := decide_eq_true c3
  clear c3
  by_cases c4 : a1 < (a0.size : Int)
  ·rw [if_pos c4] at H
   have c4b0 : decide (a1 < (a0.size : Int)) = true := decide_eq_true c4
   clear c4
   replace H := Option.bind_eq_some_iff.mp H
   obtain ⟨t215, A60, H⟩ := H
   replace H : (if t215 = true then (orielref05_Next.l0 k a0 1 a1 (wrap64 (a1 + 1))) else (if (bt a0 a1) = 40 then (if (wrap64 (a1 + 1)) < (a0.size : Int) then (if 0 ≤ (wrap64 (a1 + 1)) then (orielref05_Next.j1 k a0 a1 (bt a0 a1) ((bt a0 (wrap64 (a1 + 1))) == 42) 3 a1 (wrap64 (a1 + 1))) else (none)) else (orielref05_Next.j1 k a0 a1 (bt a0 a1) false 3 a1 (wrap64 (a1 + 1)))) else (orielref05_Next.j1 k a0 a1 (bt a0 a1) false 3 a1 (wrap64 (a1 + 1))))) = some (r1, r2, r3) := H
   have A6 := Aside0.mk A60
   clear A60
   by_cases c7 : t215 = true
   ·subst c7
    have H1 : (orielref05_Next.l0 k a0 1 a1 (wrap64 (a1 + 1))) = some (r1, r2, r3) := by rw [if_pos rfl] at H; exact H
    clear H
    have H := H1
    clear H1
    have H' := Aside0.mk H
    clear H
    go_enter Tryz.func60, Tryz.ntmps60
    go_wp2_with (first | ((with_reducible refine gate_dst (N := 4) rfl ?_); (try (refine gate_guard (by rfl) ?_; dsimp only)); refine box_event ?hg (N := 4) ?hd (cs := #[.int .i64 0, .int .i64 0, .int .i64 0]) (t := 51) ?hr ?_; (case hd => rfl); (case hg => rfl); (case hr => (go_simp; done)); intro gb213 hg w8 hbox hb; have n0_ := Aside0.mk (below_step (by repeat (with_reducible exact HB.out)) hb); have n1_ := Aside0.mk (hbox); have n2_ := Aside0.mk ((by rw [hg]; exact (below_size (by repeat (with_reducible exact HB.out))) : w.heap.size ≤ gb213)); have n3_ := Aside0.mk ((by rw [hg]; exact (below_size (by repeat (with_reducible exact HB.out))) : w.heap.size ≤ gb213)); clear HB; have HB := n0_; have BK213 := n1_; have GW213 := n2_; have GE213 := n3_; clear n0_ n1_ n2_ n3_; clear hb hbox hg; have p5 : 0 ≤ (a1 : Int) := of_decide_eq_true (by with_reducible assumption); have q5 : a1 < (a0.size : Int) := of_decide_eq_true (by with_reducible assumption); have hx5 := bt_at a0 a1; replace p5 := eq_true p5; replace q5 := eq_true q5) | ((with_reducible refine gate_dst (N := 6) rfl ?_); (try (refine gate_guard (by rfl) ?_; dsimp only)); refine box_event ?hg (N := 6) ?hd (cs := #[.int .i64 0, .int .i64 0, .int .i64 0]) (t := 51) ?hr ?_; (case hd => rfl); (case hg => rfl); (case hr => (go_simp; done)); intro gb214 hg w9 hbox hb; have n0_ := Aside0.mk (blk_below (g := gb213) (o := .cells #[.int .i64 0, .int .i64 0, .int .i64 0] 51 (0, 0)) (by (with_reducible repeat (fail)); exact BK213.out) hb); have n1_ := Aside0.mk (below_step (by repeat (with_reducible exact HB.out)) hb); have n2_ := Aside0.mk (hbox); have n3_ := Aside0.mk ((by rw [hg]; exact (below_size (by repeat (with_reducible exact HB.out))) : w.heap.size ≤ gb214)); have n4_ := Aside0.mk ((by rw [hg]; exact (below_size (by repeat (with_reducible exact HB.out))) : w.heap.size ≤ gb214)); have n5_ := Aside0.mk ((by rw [hg]; exact Nat.ne_of_lt (blk_lt (g := gb213) (o := .cells #[.int .i64 0, .int .i64 0, .int .i64 0] 51 (0, 0)) (by (with_reducible repeat (fail)); exact BK213.out)) : gb213 ≠ gb214)); have n6_ := Aside0.mk ((by rw [hg]; exact Nat.ne_of_gt (blk_lt (g := gb213) (o := .cells #[.int .i64 0, .int .i64 0, .int .i64 0] 51 (0, 0)) (by (with_reducible repeat (fail)); exact BK213.out)) : gb214 ≠ gb213)); clear BK213; clear HB; have BK213 := n0_; have HB := n1_; have BK214 := n2_; have GW214 := n3_; have GE214 := n4_; have NB213_214 := n5_; have NB214_213 := n6_; clear n0_ n1_ n2_ n3_ n4_ n5_ n6_; clear hb hbox hg; have hnb10 := NB214_213.out; have hnc10 := NB213_214.out; have hcz11_0 : w9.cell? ⟨gb214, 0, none⟩ = some (.int .i64 0) := (blk_cell BK214.out 0).trans rfl; have hcz11_1 : w9.cell? ⟨gb214, 1, none⟩ = some (.int .i64 0) := (blk_cell BK214.out 1).trans rfl; have hcz11_2 : w9.cell? ⟨gb214, 2, none⟩ = some (.int .i64 0) := (blk_cell BK214.out 2).trans rfl; have hfz11_0 := blk_frozen BK214.out 0; have hfz11_1 := blk_frozen BK214.out 1; have hfz11_2 := blk_frozen BK214.out 2) | ((with_reducible refine gate_callee (f := 71) rfl ?_); refine goesL_ (some 19) rfl rfl Tryz.func71 (by kernel_rfl) rfl #[.int .u8 (bt a0 a1)] rfl (by (try simp only [List.map_toArray, List.map_cons, List.map_nil]); rfl) ?_; (with_reducible refine (orielref05_blank.calls (bt a0 a1) true _ A6.out).mono ?_); rintro e w' ⟨rfl, ⟨nd, rfl⟩⟩; refine ⟨_, rfl, ?_⟩))
    go_loopg [] k (fun kq w' => ∃ (x215002_1 : Int), Aside0 (orielref05_Next.l0 kq a0 1 a1 x215002_1 = some (r1, r2, r3)) ∧ Aside0 (kq ≤ k) ∧ Aside0 (w'.heap[gb213]? = some (.cells #[.int .i64 0, .int .i64 0, .int .i64 0] 51 (0, 0))) ∧ Aside0 (w'.heap[gb214]? = some (.cells #[.int .i64 1, .int .i64 a1, .int .i64 x215002_1] 51 (0, 0))) ∧ Aside0 (Below w.heap.size w w'))
    case atStart => exact ⟨(wrap64 (a1 + 1)), H', ⟨Nat.le_refl _⟩, ⟨by (with_reducible repeat (fail)); refine blk_far ?_ NB213_214.out _; (with_reducible repeat (refine blk_drewN ?_ _)); refine blk_far ?_ NB213_214.out _; (with_reducible repeat (fail)); refine blk_far ?_ NB213_214.out _; (with_reducible repeat (fail)); refine blk_far ?_ NB213_214.out _; (with_reducible repeat (fail)); exact BK213.out⟩, ⟨by (with_reducible repeat (fail)); refine blk_put (cs := #[.int .i64 3, .int .i64 a1, .int .i64 (wrap64 (a1 + 1))]) ?_ 0 _ rfl; (with_reducible repeat (refine blk_drewN ?_ _)); refine blk_put (cs := #[.int .i64 3, .int .i64 a1, .int .i64 0]) ?_ 2 _ rfl; (with_reducible repeat (fail)); refine blk_put (cs := #[.int .i64 3, .int .i64 0, .int .i64 0]) ?_ 1 _ rfl; (with_reducible repeat (fail)); refine blk_put (cs := #[.int .i64 0, .int .i64 0, .int .i64 0]) ?_ 0 _ rfl; (with_reducible repeat (fail)); exact BK214.out⟩, ⟨by repeat ((with_reducible first | exact HB.out | apply pw_below_drewN | refine below_set ?_ GE214.out))⟩⟩
    case round =>
     clear H'
     clear c3b0 c4b0 p5 q5 hx5 hcz11_0 hcz11_1 hcz11_2 hfz11_0 hfz11_1 hfz11_2
     obtain ⟨x215002_1, HA, HK1, BK213, BK214, HB⟩ := hrel
     cases gk with
     | zero => exact absurd HA.out (by simp [orielref05_Next.l0])
     | succ k1 =>
      have H := HA.out
      clear HA
      simp only [orielref05_Next.l0] at H
      by_cases c12 : x215002_1 < (a0.size : Int)
      ·rw [if_pos c12] at H
       have c12b0 : decide (x215002_1 < (a0.size : Int)) = true := decide_eq_true c12
       clear c12
       by_cases c13 : 0 ≤ x215002_1
       ·rw [if_pos c13] at H
        have c13b0 : decide (0 ≤ x215002_1) = true := decide_eq_true c13
        clear c13
        replace H := Option.bind_eq_some_iff.mp H
        obtain ⟨t216, A150, H⟩ := H
        replace H : (if t216 = true then (orielref05_Next.l0 k1 a0 1 a1 (wrap64 (x215002_1 + 1))) else (some (1, a1, x215002_1))) = some (r1, r2, r3) := H
        have A15 := Aside0.mk A150
        clear A150
        by_cases c16 : t216 = true
        ·subst c16
         have H1 : (orielref05_Next.l0 k1 a0 1 a1 (wrap64 (x215002_1 + 1))) = some (r1, r2, r3) := by rw [if_pos rfl] at H; exact H
         clear H
         have H := H1
         clear H1
         have H' := Aside0.mk H
         clear H
         have hnb17 := NB214_213.out
         have hnc17 := NB213_214.out
         have hcz18_0 : wr.cell? ⟨gb214, 0, none⟩ = some (.int .i64 1) := (blk_cell BK214.out 0).trans rfl
         have hcz18_1 : wr.cell? ⟨gb214, 1, none⟩ = some (.int .i64 a1) := (blk_cell BK214.out 1).trans rfl
         have hcz18_2 : wr.cell? ⟨gb214, 2, none⟩ = some (.int .i64 x215002_1) := (blk_cell BK214.out 2).trans rfl
         have hfz18_0 := blk_frozen BK214.out 0
         have hfz18_1 := blk_frozen BK214.out 1
         have hfz18_2 := blk_frozen BK214.out 2
         have p14 : 0 ≤ (x215002_1 : Int) := of_decide_eq_true (by with_reducible assumption)
         have q14 : x215002_1 < (a0.size : Int) := of_decide_eq_true (by with_reducible assumption)
         have hx14 := bt_at a0 x215002_1
         replace p14 := eq_true p14
         replace q14 := eq_true q14
         go_wp2_with ((go_at_call 71; (with_reducible refine (orielref05_blank.calls (bt a0 x215002_1) true _ A15.out).mono ?_); rintro e w' ⟨rfl, ⟨nd, rfl⟩⟩; (try (rw [drewN_self wr]; generalize hq_ : World.drewN wr _ = wr; have n0_ : Aside0 (wr.heap[gb213]? = some (.cells #[.int .i64 0, .int .i64 0, .int .i64 0] 51 (0, 0))) := ⟨by rw [← hq_]; exact (by (with_reducible repeat (refine blk_drewN ?_ _)); exact BK213.out)⟩; have n1_ : Aside0 (wr.heap[gb214]? = some (.cells #[.int .i64 1, .int .i64 a1, .int .i64 x215002_1] 51 (0, 0))) := ⟨by rw [← hq_]; exact (by (with_reducible repeat (refine blk_drewN ?_ _)); exact BK214.out)⟩; have n2_ : Aside0 (Below w.heap.size w wr) := ⟨by rw [← hq_]; exact (by repeat ((with_reducible first | exact HB.out | apply pw_below_drewN )))⟩; clear BK213 BK214 HB hq_; have BK213 := n0_; have BK214 := n1_; have HB := n2_; clear n0_ n1_ n2_; have hcy0_gb213_0 : wr.cell? ⟨gb213, 0, none⟩ = some (.int .i64 0) := (blk_cell BK213.out 0).trans rfl; have hfy0_gb213_0 := blk_frozen BK213.out 0; have hcy0_gb213_1 : wr.cell? ⟨gb213, 1, none⟩ = some (.int .i64 0) := (blk_cell BK213.out 1).trans rfl; have hfy0_gb213_1 := blk_frozen BK213.out 1; have hcy0_gb213_2 : wr.cell? ⟨gb213, 2, none⟩ = some (.int .i64 0) := (blk_cell BK213.out 2).trans rfl; have hfy0_gb213_2 := blk_frozen BK213.out 2; have hcy0_gb214_0 : wr.cell? ⟨gb214, 0, none⟩ = some (.int .i64 1) := (blk_cell BK214.out 0).trans rfl; have hfy0_gb214_0 := blk_frozen BK214.out 0; have hcy0_gb214_1 : wr.cell? ⟨gb214, 1, none⟩ = some (.int .i64 a1) := (blk_cell BK214.out 1).trans rfl; have hfy0_gb214_1 := blk_frozen BK214.out 1; have hcy0_gb214_2 : wr.cell? ⟨gb214, 2, none⟩ = some (.int .i64 x215002_1) := (blk_cell BK214.out 2).trans rfl; have hfy0_gb214_2 := blk_frozen BK214.out 2))))
         go_roundg k1
         case measure => have := HK1.out; omega
         case rel => exact ⟨(wrap64 (x215002_1 + 1)), H', ⟨by have := HK1.out; omega⟩, ⟨by (with_reducible repeat (fail)); refine blk_far ?_ NB213_214.out _; (with_reducible repeat (fail)); exact BK213.out⟩, ⟨by (with_reducible repeat (fail)); refine blk_put (cs := #[.int .i64 1, .int .i64 a1, .int .i64 x215002_1]) ?_ 2 _ rfl; (with_reducible repeat (fail)); exact BK214.out⟩, ⟨by repeat ((with_reducible first | exact HB.out | refine below_set ?_ GE214.out))⟩⟩
        ·replace c16 := Bool.eq_false_iff.mpr c16
         subst c16
         have H1 : (some (1, a1, x215002_1)) = some (r1, r2, r3) := by rw [if_neg (show ¬ (false = true) by decide)] at H; exact H
         clear H
         have H := H1
         clear H1
         simp only [Option.some.injEq, Prod.mk.injEq] at H
         obtain ⟨rfl, rfl, rfl⟩ := H
         have hnb19 := NB214_213.out
         have hnc19 := NB213_214.out
         have hcz20_0 : wr.cell? ⟨gb214, 0, none⟩ = some (.int .i64 1) := (blk_cell BK214.out 0).trans rfl
         have hcz20_1 : wr.cell? ⟨gb214, 1, none⟩ = some (.int .i64 a1) := (blk_cell BK214.out 1).trans rfl
         have hcz20_2 : wr.cell? ⟨gb214, 2, none⟩ = some (.int .i64 x215002_1) := (blk_cell BK214.out 2).trans rfl
         have hfz20_0 := blk_frozen BK214.out 0
         have hfz20_1 := blk_frozen BK214.out 1
         have hfz20_2 := blk_frozen BK214.out 2
         have p14 : 0 ≤ (x215002_1 : Int) := of_decide_eq_true (by with_reducible assumption)
         have q14 : x215002_1 < (a0.size : Int) := of_decide_eq_true (by with_reducible assumption)
         have hx14 := bt_at a0 x215002_1
         replace p14 := eq_true p14
         replace q14 := eq_true q14
         go_wp2_with ((go_at_call 71; (with_reducible refine (orielref05_blank.calls (bt a0 x215002_1) false _ A15.out).mono ?_); rintro e w' ⟨rfl, ⟨nd, rfl⟩⟩; (try (rw [drewN_self wr]; generalize hq_ : World.drewN wr _ = wr; have n0_ : Aside0 (wr.heap[gb213]? = some (.cells #[.int .i64 0, .int .i64 0, .int .i64 0] 51 (0, 0))) := ⟨by rw [← hq_]; exact (by (with_reducible repeat (refine blk_drewN ?_ _)); exact BK213.out)⟩; have n1_ : Aside0 (wr.heap[gb214]? = some (.cells #[.int .i64 1, .int .i64 a1, .int .i64 x215002_1] 51 (0, 0))) := ⟨by rw [← hq_]; exact (by (with_reducible repeat (refine blk_drewN ?_ _)); exact BK214.out)⟩; have n2_ : Aside0 (Below w.heap.size w wr) := ⟨by rw [← hq_]; exact (by repeat ((with_reducible first | exact HB.out | apply pw_below_drewN )))⟩; clear BK213 BK214 HB hq_; have BK213 := n0_; have BK214 := n1_; have HB := n2_; clear n0_ n1_ n2_; have hcy1_gb213_0 : wr.cell? ⟨gb213, 0, none⟩ = some (.int .i64 0) := (blk_cell BK213.out 0).trans rfl; have hfy1_gb213_0 := blk_frozen BK213.out 0; have hcy1_gb213_1 : wr.cell? ⟨gb213, 1, none⟩ = some (.int .i64 0) := (blk_cell BK213.out 1).trans rfl; have hfy1_gb213_1 := blk_frozen BK213.out 1; have hcy1_gb213_2 : wr.cell? ⟨gb213, 2, none⟩ = some (.int .i64 0) := (blk_cell BK213.out 2).trans rfl; have hfy1_gb213_2 := blk_frozen BK213.out 2; have hcy1_gb214_0 : wr.cell? ⟨gb214, 0, none⟩ = some (.int .i64 1) := (blk_cell BK214.out 0).trans rfl; have hfy1_gb214_0 := blk_frozen BK214.out 0; have hcy1_gb214_1 : wr.cell? ⟨gb214, 1, none⟩ = some (.int .i64 a1) := (blk_cell BK214.out 1).trans rfl; have hfy1_gb214_1 := blk_frozen BK214.out 1; have hcy1_gb214_2 : wr.cell? ⟨gb214, 2, none⟩ = some (.int .i64 x215002_1) := (blk_cell BK214.out 2).trans rfl; have hfy1_gb214_2 := blk_frozen BK214.out 2)); have hcz21_0 : wr.cell? ⟨gb213, 0, none⟩ = some (.int .i64 0) := (blk_cell BK213.out 0).trans rfl; have hcz21_1 : wr.cell? ⟨gb213, 1, none⟩ = some (.int .i64 0) := (blk_cell BK213.out 1).trans rfl; have hcz21_2 : wr.cell? ⟨gb213, 2, none⟩ = some (.int .i64 0) := (blk_cell BK213.out 2).trans rfl; have hfz21_0 := blk_frozen BK213.out 0; have hfz21_1 := blk_frozen BK213.out 1; have hfz21_2 := blk_frozen BK213.out 2))
         refine bodyPost_ret (results_cell_row rfl _ _ gb213 51 #[.int .i64 1, .int .i64 a1, .int .i64 x215002_1] (0, 0) _ rfl (by (with_reducible repeat (fail)); refine blk_put (cs := #[.int .i64 1, .int .i64 a1, .int .i64 0]) ?_ 2 _ rfl; (with_reducible repeat (fail)); refine blk_put (cs := #[.int .i64 1, .int .i64 0, .int .i64 0]) ?_ 1 _ rfl; (with_reducible repeat (fail)); refine blk_put (cs := #[.int .i64 0, .int .i64 0, .int .i64 0]) ?_ 0 _ rfl; (with_reducible repeat (fail)); exact BK213.out) Tryz.underlying51 rfl (by kernel_rfl)) rfl ?_
         exact ⟨by rfl, by repeat ((with_reducible first | exact HB.out | refine below_set ?_ GE213.out ))⟩
       ·rw [if_neg c13] at H
        exact absurd H (by simp)
      ·rw [if_neg c12] at H
       have c12b0 : decide (x215002_1 < (a0.size : Int)) = false := decide_eq_false c12
       clear c12
       simp only [Option.some.injEq, Prod.mk.injEq] at H
       obtain ⟨rfl, rfl, rfl⟩ := H
       have hnb22 := NB214_213.out
       have hnc22 := NB213_214.out
       have hcz23_0 : wr.cell? ⟨gb214, 0, none⟩ = some (.int .i64 1) := (blk_cell BK214.out 0).trans rfl
       have hcz23_1 : wr.cell? ⟨gb214, 1, none⟩ = some (.int .i64 a1) := (blk_cell BK214.out 1).trans rfl
       have hcz23_2 : wr.cell? ⟨gb214, 2, none⟩ = some (.int .i64 x215002_1) := (blk_cell BK214.out 2).trans rfl
       have hfz23_0 := blk_frozen BK214.out 0
       have hfz23_1 := blk_frozen BK214.out 1
       have hfz23_2 := blk_frozen BK214.out 2
       have hcz24_0 : wr.cell? ⟨gb213, 0, none⟩ = some (.int .i64 0) := (blk_cell BK213.out 0).trans rfl
       have hcz24_1 : wr.cell? ⟨gb213, 1, none⟩ = some (.int .i64 0) := (blk_cell BK213.out 1).trans rfl
       have hcz24_2 : wr.cell? ⟨gb213, 2, none⟩ = some (.int .i64 0) := (blk_cell BK213.out 2).trans rfl
       have hfz24_0 := blk_frozen BK213.out 0
       have hfz24_1 := blk_frozen BK213.out 1
       have hfz24_2 := blk_frozen BK213.out 2
       go_wp2
       refine bodyPost_ret (results_cell_row rfl _ _ gb213 51 #[.int .i64 1, .int .i64 a1, .int .i64 x215002_1] (0, 0) _ rfl (by (with_reducible repeat (fail)); refine blk_put (cs := #[.int .i64 1, .int .i64 a1, .int .i64 0]) ?_ 2 _ rfl; (with_reducible repeat (fail)); refine blk_put (cs := #[.int .i64 1, .int .i64 0, .int .i64 0]) ?_ 1 _ rfl; (with_reducible repeat (fail)); refine blk_put (cs := #[.int .i64 0, .int .i64 0, .int .i64 0]) ?_ 0 _ rfl; (with_reducible repeat (fail)); exact BK213.out) Tryz.underlying51 rfl (by kernel_rfl)) rfl ?_
       exact ⟨by rfl, by repeat ((with_reducible first | exact HB.out | refine below_set ?_ GE213.out ))⟩
   ·replace c7 := Bool.eq_false_iff.mpr c7
    subst c7
    have H1 : (if (bt a0 a1) = 40 then (if (wrap64 (a1 + 1)) < (a0.size : Int) then (if 0 ≤ (wrap64 (a1 + 1)) then (orielref05_Next.j1 k a0 a1 (bt a0 a1) ((bt a0 (wrap64 (a1 + 1))) == 42) 3 a1 (wrap64 (a1 + 1))) else (none)) else (orielref05_Next.j1 k a0 a1 (bt a0 a1) false 3 a1 (wrap64 (a1 + 1)))) else (orielref05_Next.j1 k a0 a1 (bt a0 a1) false 3 a1 (wrap64 (a1 + 1)))) = some (r1, r2, r3) := by rw [if_neg (show ¬ (false = true) by decide)] at H; exact H
    clear H
    have H := H1
    clear H1
    have HC25 := Aside0.mk H
    clear H
    go_enter Tryz.func60, Tryz.ntmps60
    go_upto_region 8 with (first | ((with_reducible refine gate_dst (N := 4) rfl ?_); (try (refine gate_guard (by rfl) ?_; dsimp only)); refine box_event ?hg (N := 4) ?hd (cs := #[.int .i64 0, .int .i64 0, .int .i64 0]) (t := 51) ?hr ?_; (case hd => rfl); (case hg => rfl); (case hr => (go_simp; done)); intro gb213 hg w26 hbox hb; have n0_ := Aside0.mk (below_step (by repeat (with_reducible exact HB.out)) hb); have n1_ := Aside0.mk (hbox); have n2_ := Aside0.mk ((by rw [hg]; exact (below_size (by repeat (with_reducible exact HB.out))) : w.heap.size ≤ gb213)); have n3_ := Aside0.mk ((by rw [hg]; exact (below_size (by repeat (with_reducible exact HB.out))) : w.heap.size ≤ gb213)); clear HB; have HB := n0_; have BK213 := n1_; have GW213 := n2_; have GE213 := n3_; clear n0_ n1_ n2_ n3_; clear hb hbox hg; have p5 : 0 ≤ (a1 : Int) := of_decide_eq_true (by with_reducible assumption); have q5 : a1 < (a0.size : Int) := of_decide_eq_true (by with_reducible assumption); have hx5 := bt_at a0 a1; replace p5 := eq_true p5; replace q5 := eq_true q5) | ((with_reducible refine gate_dst (N := 6) rfl ?_); (try (refine gate_guard (by rfl) ?_; dsimp only)); refine box_event ?hg (N := 6) ?hd (cs := #[.int .i64 0, .int .i64 0, .int .i64 0]) (t := 51) ?hr ?_; (case hd => rfl); (case hg => rfl); (case hr => (go_simp; done)); intro gb214 hg w27 hbox hb; have n0_ := Aside0.mk (blk_below (g := gb213) (o := .cells #[.int .i64 0, .int .i64 0, .int .i64 0] 51 (0, 0)) (by (with_reducible repeat (fail)); exact BK213.out) hb); have n1_ := Aside0.mk (below_step (by repeat (with_reducible exact HB.out)) hb); have n2_ := Aside0.mk (hbox); have n3_ := Aside0.mk ((by rw [hg]; exact (below_size (by repeat (with_reducible exact HB.out))) : w.heap.size ≤ gb214)); have n4_ := Aside0.mk ((by rw [hg]; exact (below_size (by repeat (with_reducible exact HB.out))) : w.heap.size ≤ gb214)); have n5_ := Aside0.mk ((by rw [hg]; exact Nat.ne_of_lt (blk_lt (g := gb213) (o := .cells #[.int .i64 0, .int .i64 0, .int .i64 0] 51 (0, 0)) (by (with_reducible repeat (fail)); exact BK213.out)) : gb213 ≠ gb214)); have n6_ := Aside0.mk ((by rw [hg]; exact Nat.ne_of_gt (blk_lt (g := gb213) (o := .cells #[.int .i64 0, .int .i64 0, .int .i64 0] 51 (0, 0)) (by (with_reducible repeat (fail)); exact BK213.out)) : gb214 ≠ gb213)); clear BK213; clear HB; have BK213 := n0_; have HB := n1_; have BK214 := n2_; have GW214 := n3_; have GE214 := n4_; have NB213_214 := n5_; have NB214_213 := n6_; clear n0_ n1_ n2_ n3_ n4_ n5_ n6_; clear hb hbox hg; have hnb28 := NB214_213.out; have hnc28 := NB213_214.out; have hcz29_0 : w27.cell? ⟨gb214, 0, none⟩ = some (.int .i64 0) := (blk_cell BK214.out 0).trans rfl; have hcz29_1 : w27.cell? ⟨gb214, 1, none⟩ = some (.int .i64 0) := (blk_cell BK214.out 1).trans rfl; have hcz29_2 : w27.cell? ⟨gb214, 2, none⟩ = some (.int .i64 0) := (blk_cell BK214.out 2).trans rfl; have hfz29_0 := blk_frozen BK214.out 0; have hfz29_1 := blk_frozen BK214.out 1; have hfz29_2 := blk_frozen BK214.out 2) | ((with_reducible refine gate_callee (f := 71) rfl ?_); refine goesL_ (some 19) rfl rfl Tryz.func71 (by kernel_rfl) rfl #[.int .u8 (bt a0 a1)] rfl (by (try simp only [List.map_toArray, List.map_cons, List.map_nil]); rfl) ?_; (with_reducible refine (orielref05_blank.calls (bt a0 a1) false _ A6.out).mono ?_); rintro e w' ⟨rfl, ⟨nd, rfl⟩⟩; refine ⟨_, rfl, ?_⟩))
    (try simp only [Act.put, List.setIfInBounds_toArray, List.set_cons_zero, List.set_cons_succ])
    go_cut [53] (fun v53 wc => ∃ (kq : Nat) (x53_24 : Bool), v53 = .bool x53_24 ∧ Aside0 (orielref05_Next.j1 kq a0 a1 (bt a0 a1) x53_24 3 a1 (wrap64 (a1 + 1)) = some (r1, r2, r3)) ∧ Aside0 (kq ≤ k) ∧ Aside0 (wc.heap[gb213]? = some (.cells #[.int .i64 0, .int .i64 0, .int .i64 0] 51 (0, 0))) ∧ Aside0 (wc.heap[gb214]? = some (.cells #[.int .i64 3, .int .i64 a1, .int .i64 (wrap64 (a1 + 1))] 51 (0, 0))) ∧ Aside0 (Below w.heap.size w wc))
    case first =>
     have H := HC25.out
     clear HC25
     by_cases c30 : (bt a0 a1) = 40
     ·rw [if_pos c30] at H
      have c30b0 : ((bt a0 a1) == 40) = true := beq_iff_eq.mpr c30
      have c30b1 : ((bt a0 a1) != 40) = false := bne_eq_false_iff_eq.mpr c30
      clear c30
      (skip)
      by_cases c31 : (wrap64 (a1 + 1)) < (a0.size : Int)
      ·rw [if_pos c31] at H
       have c31b0 : decide ((wrap64 (a1 + 1)) < (a0.size : Int)) = true := decide_eq_true c31
       clear c31
       obtain ⟨ji32, hji32⟩ : ∃ j_ : Int, (wrap64 (a1 + 1)) = j_ := ⟨_, rfl⟩
       replace H : (if 0 ≤ (ji32) then (orielref05_Next.j1 k a0 a1 (bt a0 a1) ((bt a0 (ji32)) == 42) 3 a1 ji32) else (none)) = some (r1, r2, r3) := by (rw [hji32] at H; exact H)
       (try rw [hji32] at c31b0)
       have hji32w : (IntKind.i64.wrap (a1 + 1)) = ji32 := (i64_w _).trans hji32
       by_cases c33 : 0 ≤ (ji32)
       ·rw [if_pos c33] at H
        have c33b0 : decide (0 ≤ (ji32)) = true := decide_eq_true c33
        clear c33
        have H' := Aside0.mk H
        clear H
        have p34 : 0 ≤ ((ji32) : Int) := of_decide_eq_true (by with_reducible assumption)
        have q34 : (ji32) < (a0.size : Int) := of_decide_eq_true (by with_reducible assumption)
        have hx34 := bt_at a0 (ji32)
        replace p34 := eq_true p34
        replace q34 := eq_true q34
        go_wp2
        go_meet
        case rel => subst hji32; exact ⟨_, (((bt a0 (wrap64 (a1 + 1))) == 42)), (by rfl), H', ⟨by omega⟩, ⟨by (with_reducible repeat (refine blk_drewN ?_ _)); refine blk_far ?_ NB213_214.out _; (with_reducible repeat (fail)); refine blk_far ?_ NB213_214.out _; (with_reducible repeat (fail)); refine blk_far ?_ NB213_214.out _; (with_reducible repeat (fail)); exact BK213.out⟩, ⟨by (with_reducible repeat (refine blk_drewN ?_ _)); refine blk_put (cs := #[.int .i64 3, .int .i64 a1, .int .i64 0]) ?_ 2 _ rfl; (with_reducible repeat (fail)); refine blk_put (cs := #[.int .i64 3, .int .i64 0, .int .i64 0]) ?_ 1 _ rfl; (with_reducible repeat (fail)); refine blk_put (cs := #[.int .i64 0, .int .i64 0, .int .i64 0]) ?_ 0 _ rfl; (with_reducible repeat (fail)); exact BK214.out⟩, ⟨by repeat ((with_reducible first | exact HB.out | apply pw_below_drewN | refine below_set ?_ GE214.out))⟩⟩
       ·rw [if_neg c33] at H
        exact absurd H (by simp)
      ·rw [if_neg c31] at H
       have c31b0 : decide ((wrap64 (a1 + 1)) < (a0.size : Int)) = false := decide_eq_false c31
       clear c31
       have H' := Aside0.mk H
       clear H
       go_wp2
       go_meet
       case rel => exact ⟨_, (false), (by rfl), H', ⟨by omega⟩, ⟨by (with_reducible repeat (refine blk_drewN ?_ _)); refine blk_far ?_ NB213_214.out _; (with_reducible repeat (fail)); refine blk_far ?_ NB213_214.out _; (with_reducible repeat (fail)); refine blk_far ?_ NB213_214.out _; (with_reducible repeat (fail)); exact BK213.out⟩, ⟨by (with_reducible repeat (refine blk_drewN ?_ _)); refine blk_put (cs := #[.int .i64 3, .int .i64 a1, .int .i64 0]) ?_ 2 _ rfl; (with_reducible repeat (fail)); refine blk_put (cs := #[.int .i64 3, .int .i64 0, .int .i64 0]) ?_ 1 _ rfl; (with_reducible repeat (fail)); refine blk_put (cs := #[.int .i64 0, .int .i64 0, .int .i64 0]) ?_ 0 _ rfl; (with_reducible repeat (fail)); exact BK214.out⟩, ⟨by repeat ((with_reducible first | exact HB.out | apply pw_below_drewN | refine below_set ?_ GE214.out))⟩⟩
     ·rw [if_neg c30] at H
      have c30b0 : ((bt a0 a1) == 40) = false := beq_eq_false_iff_ne.mpr c30
      have c30b1 : ((bt a0 a1) != 40) = true := bne_iff_ne.mpr c30
      (skip)
      have H' := Aside0.mk H
      clear H
      go_wp2
      go_meet
      case rel => exact ⟨_, (false), (by rfl), H', ⟨by omega⟩, ⟨by (with_reducible repeat (refine blk_drewN ?_ _)); refine blk_far ?_ NB213_214.out _; (with_reducible repeat (fail)); refine blk_far ?_ NB213_214.out _; (with_reducible repeat (fail)); refine blk_far ?_ NB213_214.out _; (with_reducible repeat (fail)); exact BK213.out⟩, ⟨by (with_reducible repeat (refine blk_drewN ?_ _)); refine blk_put (cs := #[.int .i64 3, .int .i64 a1, .int .i64 0]) ?_ 2 _ rfl; (with_reducible repeat (fail)); refine blk_put (cs := #[.int .i64 3, .int .i64 0, .int .i64 0]) ?_ 1 _ rfl; (with_reducible repeat (fail)); refine blk_put (cs := #[.int .i64 0, .int .i64 0, .int .i64 0]) ?_ 0 _ rfl; (with_reducible repeat (fail)); exact BK214.out⟩, ⟨by repeat ((with_reducible first | exact HB.out | apply pw_below_drewN | refine below_set ?_ GE214.out))⟩⟩
    case rest =>
     clear HC25
     clear c3b0 c4b0 p5 q5 hx5 hcz29_0 hcz29_1 hcz29_2 hfz29_0 hfz29_1 hfz29_2
     obtain ⟨kq, x53_24, rfl, HA, HJ24, BK213, BK214, HB⟩ := hcut
     cases kq with
     | zero => exact absurd HA.out (by simp [orielref05_Next.j1])
     | succ kj24 =>
      have H := HA.out
      clear HA
      simp only [orielref05_Next.j1] at H
      by_cases c35 : x53_24 = true
      ·subst c35
       have H1 : ((orielref05_note.f kj24 a0 a1).bind fun t217 => (if t217 > 0 then (some (2, a1, t217)) else (some (3, a1, (a0.size : Int))))) = some (r1, r2, r3) := by rw [if_pos rfl] at H; exact H
       clear H
       have H := H1
       clear H1
       replace H := Option.bind_eq_some_iff.mp H
       obtain ⟨t217, A360, H⟩ := H
       replace H : (if t217 > 0 then (some (2, a1, t217)) else (some (3, a1, (a0.size : Int)))) = some (r1, r2, r3) := H
       have A36 := Aside0.mk A360
       clear A360
       by_cases c37 : t217 > 0
       ·rw [if_pos c37] at H
        have c37b0 : decide (0 < t217) = true := decide_eq_true c37
        clear c37
        simp only [Option.some.injEq, Prod.mk.injEq] at H
        obtain ⟨rfl, rfl, rfl⟩ := H
        have hnb38 := NB214_213.out
        have hnc38 := NB213_214.out
        have hcz39_0 : wc.cell? ⟨gb214, 0, none⟩ = some (.int .i64 3) := (blk_cell BK214.out 0).trans rfl
        have hcz39_1 : wc.cell? ⟨gb214, 1, none⟩ = some (.int .i64 a1) := (blk_cell BK214.out 1).trans rfl
        have hcz39_2 : wc.cell? ⟨gb214, 2, none⟩ = some (.int .i64 (wrap64 (a1 + 1))) := (blk_cell BK214.out 2).trans rfl
        have hfz39_0 := blk_frozen BK214.out 0
        have hfz39_1 := blk_frozen BK214.out 1
        have hfz39_2 := blk_frozen BK214.out 2
        go_wp2_with (((with_reducible refine gate_callee (f := 72) rfl ?_); refine goesL_ (some 59) rfl rfl Tryz.func72 (by kernel_rfl) rfl #[.string a0, .int .i64 a1] rfl (by (try simp only [List.map_toArray, List.map_cons, List.map_nil]); rfl) ?_; (with_reducible refine (orielref05_note.calls kj24 a0 a1 t217 _ A36.out).mono ?_); rintro e w' ⟨rfl, ⟨nd, rfl⟩⟩; refine ⟨_, rfl, ?_⟩; have hcz40_0 : wc.cell? ⟨gb213, 0, none⟩ = some (.int .i64 0) := (blk_cell BK213.out 0).trans rfl; have hcz40_1 : wc.cell? ⟨gb213, 1, none⟩ = some (.int .i64 0) := (blk_cell BK213.out 1).trans rfl; have hcz40_2 : wc.cell? ⟨gb213, 2, none⟩ = some (.int .i64 0) := (blk_cell BK213.out 2).trans rfl; have hfz40_0 := blk_frozen BK213.out 0; have hfz40_1 := blk_frozen BK213.out 1; have hfz40_2 := blk_frozen BK213.out 2))
        refine bodyPost_ret (results_cell_row rfl _ _ gb213 51 #[.int .i64 2, .int .i64 a1, .int .i64 t217] (0, 0) _ rfl (by (with_reducible repeat (fail)); refine blk_put (cs := #[.int .i64 2, .int .i64 a1, .int .i64 0]) ?_ 2 _ rfl; (with_reducible repeat (fail)); refine blk_put (cs := #[.int .i64 2, .int .i64 0, .int .i64 0]) ?_ 1 _ rfl; (with_reducible repeat (fail)); refine blk_put (cs := #[.int .i64 0, .int .i64 0, .int .i64 0]) ?_ 0 _ rfl; (with_reducible repeat (fail)); refine blk_far ?_ NB213_214.out _; (with_reducible repeat (fail)); refine blk_far ?_ NB213_214.out _; (with_reducible repeat (refine blk_drewN ?_ _)); refine blk_far ?_ NB213_214.out _; (with_reducible repeat (fail)); exact BK213.out) Tryz.underlying51 rfl (by kernel_rfl)) rfl ?_
        exact ⟨by rfl, by repeat ((with_reducible first | exact HB.out | apply pw_below_drewN | refine below_set ?_ GE213.out | refine below_set ?_ GE214.out))⟩
       ·rw [if_neg c37] at H
        have c37b0 : decide (0 < t217) = false := decide_eq_false c37
        clear c37
        simp only [Option.some.injEq, Prod.mk.injEq] at H
        obtain ⟨rfl, rfl, rfl⟩ := H
        have hnb41 := NB214_213.out
        have hnc41 := NB213_214.out
        have hcz42_0 : wc.cell? ⟨gb214, 0, none⟩ = some (.int .i64 3) := (blk_cell BK214.out 0).trans rfl
        have hcz42_1 : wc.cell? ⟨gb214, 1, none⟩ = some (.int .i64 a1) := (blk_cell BK214.out 1).trans rfl
        have hcz42_2 : wc.cell? ⟨gb214, 2, none⟩ = some (.int .i64 (wrap64 (a1 + 1))) := (blk_cell BK214.out 2).trans rfl
        have hfz42_0 := blk_frozen BK214.out 0
        have hfz42_1 := blk_frozen BK214.out 1
        have hfz42_2 := blk_frozen BK214.out 2
        go_wp2_with (((with_reducible refine gate_callee (f := 72) rfl ?_); refine goesL_ (some 59) rfl rfl Tryz.func72 (by kernel_rfl) rfl #[.string a0, .int .i64 a1] rfl (by (try simp only [List.map_toArray, List.map_cons, List.map_nil]); rfl) ?_; (with_reducible refine (orielref05_note.calls kj24 a0 a1 t217 _ A36.out).mono ?_); rintro e w' ⟨rfl, ⟨nd, rfl⟩⟩; refine ⟨_, rfl, ?_⟩; have hcz43_0 : wc.cell? ⟨gb213, 0, none⟩ = some (.int .i64 0) := (blk_cell BK213.out 0).trans rfl; have hcz43_1 : wc.cell? ⟨gb213, 1, none⟩ = some (.int .i64 0) := (blk_cell BK213.out 1).trans rfl; have hcz43_2 : wc.cell? ⟨gb213, 2, none⟩ = some (.int .i64 0) := (blk_cell BK213.out 2).trans rfl; have hfz43_0 := blk_frozen BK213.out 0; have hfz43_1 := blk_frozen BK213.out 1; have hfz43_2 := blk_frozen BK213.out 2))
        refine bodyPost_ret (results_cell_row rfl _ _ gb213 51 #[.int .i64 3, .int .i64 a1, .int .i64 (a0.size : Int)] (0, 0) _ rfl (by (with_reducible repeat (fail)); refine blk_put (cs := #[.int .i64 3, .int .i64 a1, .int .i64 0]) ?_ 2 _ rfl; (with_reducible repeat (fail)); refine blk_put (cs := #[.int .i64 3, .int .i64 0, .int .i64 0]) ?_ 1 _ rfl; (with_reducible repeat (fail)); refine blk_put (cs := #[.int .i64 0, .int .i64 0, .int .i64 0]) ?_ 0 _ rfl; (with_reducible repeat (refine blk_drewN ?_ _)); refine blk_far ?_ NB213_214.out _; (with_reducible repeat (fail)); exact BK213.out) Tryz.underlying51 rfl (by kernel_rfl)) rfl ?_
        exact ⟨by rfl, by repeat ((with_reducible first | exact HB.out | apply pw_below_drewN | refine below_set ?_ GE213.out | refine below_set ?_ GE214.out))⟩
      ·replace c35 := Bool.eq_false_iff.mpr c35
       subst c35
       have H1 : (if (bt a0 a1) = 34 then ((orielref05_text.f kj24 a0 a1).bind fun t218 => (if t218 > 0 then (some (5, a1, t218)) else (orielref05_Next.l1 kj24 a0 3 a1 (wrap64 (a1 + 1))))) else ((orielref04_Rest.f (bt a0 a1)).bind fun t219 => (if t219 = true then ((orielref05_digit.f (bt a0 a1)).bind fun t220 => (orielref05_Next.l2 kj24 a0 a1 t220 3 a1 (wrap64 (a1 + 1)))) else ((orielref04_Signs.f kj24 (bt a0 a1)).bind fun t224 => (if t224 = true then (orielref05_Next.l3 kj24 a0 a1 3 a1 (wrap64 (a1 + 1))) else (if 0 ≤ a1 then (if a1 ≤ (wrap64 (a1 + 1)) then (if (wrap64 (a1 + 1)) ≤ (a0.size : Int) then ((orielref04_Kind.f kj24 (a0.extract (a1 : Int).toNat ((wrap64 (a1 + 1)) : Int).toNat)).bind fun t228 => (if t228 = 0 then (some (3, a1, (wrap64 (a1 + 1)))) else (some (t228, a1, (wrap64 (a1 + 1)))))) else (none)) else (none)) else (none))))))) = some (r1, r2, r3) := by rw [if_neg (show ¬ (false = true) by decide)] at H; exact H
       clear H
       have H := H1
       clear H1
       by_cases c44 : (bt a0 a1) = 34
       ·rw [if_pos c44] at H
        have c44b0 : ((bt a0 a1) == 34) = true := beq_iff_eq.mpr c44
        have c44b1 : ((bt a0 a1) != 34) = false := bne_eq_false_iff_eq.mpr c44
        clear c44
        replace H := Option.bind_eq_some_iff.mp H
        obtain ⟨t218, A450, H⟩ := H
        replace H : (if t218 > 0 then (some (5, a1, t218)) else (orielref05_Next.l1 kj24 a0 3 a1 (wrap64 (a1 + 1)))) = some (r1, r2, r3) := H
        have A45 := Aside0.mk A450
        clear A450
        by_cases c46 : t218 > 0
        ·rw [if_pos c46] at H
         have c46b0 : decide (0 < t218) = true := decide_eq_true c46
         clear c46
         simp only [Option.some.injEq, Prod.mk.injEq] at H
         obtain ⟨rfl, rfl, rfl⟩ := H
         go_wp2_with (((with_reducible refine gate_callee (f := 73) rfl ?_); refine goesL_ (some 70) rfl rfl Tryz.func73 (by kernel_rfl) rfl #[.string a0, .int .i64 a1] rfl (by (try simp only [List.map_toArray, List.map_cons, List.map_nil]); rfl) ?_; (with_reducible refine (orielref05_text.calls kj24 a0 a1 t218 _ A45.out).mono ?_); rintro e w' ⟨rfl, ⟨nd, rfl⟩⟩; refine ⟨_, rfl, ?_⟩; (try (rw [drewN_self wc]; generalize hq_ : World.drewN wc _ = wc; have n0_ : Aside0 (wc.heap[gb213]? = some (.cells #[.int .i64 0, .int .i64 0, .int .i64 0] 51 (0, 0))) := ⟨by rw [← hq_]; exact (by (with_reducible repeat (refine blk_drewN ?_ _)); exact BK213.out)⟩; have n1_ : Aside0 (wc.heap[gb214]? = some (.cells #[.int .i64 3, .int .i64 a1, .int .i64 (wrap64 (a1 + 1))] 51 (0, 0))) := ⟨by rw [← hq_]; exact (by (with_reducible repeat (refine blk_drewN ?_ _)); exact BK214.out)⟩; have n2_ : Aside0 (Below w.heap.size w wc) := ⟨by rw [← hq_]; exact (by repeat ((with_reducible first | exact HB.out | apply pw_below_drewN )))⟩; clear BK213 BK214 HB hq_; have BK213 := n0_; have BK214 := n1_; have HB := n2_; clear n0_ n1_ n2_; have hcy2_gb213_0 : wc.cell? ⟨gb213, 0, none⟩ = some (.int .i64 0) := (blk_cell BK213.out 0).trans rfl; have hfy2_gb213_0 := blk_frozen BK213.out 0; have hcy2_gb213_1 : wc.cell? ⟨gb213, 1, none⟩ = some (.int .i64 0) := (blk_cell BK213.out 1).trans rfl; have hfy2_gb213_1 := blk_frozen BK213.out 1; have hcy2_gb213_2 : wc.cell? ⟨gb213, 2, none⟩ = some (.int .i64 0) := (blk_cell BK213.out 2).trans rfl; have hfy2_gb213_2 := blk_frozen BK213.out 2; have hcy2_gb214_0 : wc.cell? ⟨gb214, 0, none⟩ = some (.int .i64 3) := (blk_cell BK214.out 0).trans rfl; have hfy2_gb214_0 := blk_frozen BK214.out 0; have hcy2_gb214_1 : wc.cell? ⟨gb214, 1, none⟩ = some (.int .i64 a1) := (blk_cell BK214.out 1).trans rfl; have hfy2_gb214_1 := blk_frozen BK214.out 1; have hcy2_gb214_2 : wc.cell? ⟨gb214, 2, none⟩ = some (.int .i64 (wrap64 (a1 + 1))) := (blk_cell BK214.out 2).trans rfl; have hfy2_gb214_2 := blk_frozen BK214.out 2)); have hnb47 := NB214_213.out; have hnc47 := NB213_214.out; have hcz48_0 : wc.cell? ⟨gb214, 0, none⟩ = some (.int .i64 3) := (blk_cell BK214.out 0).trans rfl; have hcz48_1 : wc.cell? ⟨gb214, 1, none⟩ = some (.int .i64 a1) := (blk_cell BK214.out 1).trans rfl; have hcz48_2 : wc.cell? ⟨gb214, 2, none⟩ = some (.int .i64 (wrap64 (a1 + 1))) := (blk_cell BK214.out 2).trans rfl; have hfz48_0 := blk_frozen BK214.out 0; have hfz48_1 := blk_frozen BK214.out 1; have hfz48_2 := blk_frozen BK214.out 2; have hcz49_0 : wc.cell? ⟨gb213, 0, none⟩ = some (.int .i64 0) := (blk_cell BK213.out 0).trans rfl; have hcz49_1 : wc.cell? ⟨gb213, 1, none⟩ = some (.int .i64 0) := (blk_cell BK213.out 1).trans rfl; have hcz49_2 : wc.cell? ⟨gb213, 2, none⟩ = some (.int .i64 0) := (blk_cell BK213.out 2).trans rfl; have hfz49_0 := blk_frozen BK213.out 0; have hfz49_1 := blk_frozen BK213.out 1; have hfz49_2 := blk_frozen BK213.out 2))
         refine bodyPost_ret (results_cell_row rfl _ _ gb213 51 #[.int .i64 5, .int .i64 a1, .int .i64 t218] (0, 0) _ rfl (by (with_reducible repeat (fail)); refine blk_put (cs := #[.int .i64 5, .int .i64 a1, .int .i64 0]) ?_ 2 _ rfl; (with_reducible repeat (fail)); refine blk_put (cs := #[.int .i64 5, .int .i64 0, .int .i64 0]) ?_ 1 _ rfl; (with_reducible repeat (fail)); refine blk_put (cs := #[.int .i64 0, .int .i64 0, .int .i64 0]) ?_ 0 _ rfl; (with_reducible repeat (fail)); refine blk_far ?_ NB213_214.out _; (with_reducible repeat (fail)); refine blk_far ?_ NB213_214.out _; (with_reducible repeat (fail)); exact BK213.out) Tryz.underlying51 rfl (by kernel_rfl)) rfl ?_
         exact ⟨by rfl, by repeat ((with_reducible first | exact HB.out | refine below_set ?_ GE213.out | refine below_set ?_ GE214.out))⟩
        ·rw [if_neg c46] at H
         have c46b0 : decide (0 < t218) = false := decide_eq_false c46
         clear c46
         have H' := Aside0.mk H
         clear H
         go_wp2_with (((with_reducible refine gate_callee (f := 73) rfl ?_); refine goesL_ (some 70) rfl rfl Tryz.func73 (by kernel_rfl) rfl #[.string a0, .int .i64 a1] rfl (by (try simp only [List.map_toArray, List.map_cons, List.map_nil]); rfl) ?_; (with_reducible refine (orielref05_text.calls kj24 a0 a1 t218 _ A45.out).mono ?_); rintro e w' ⟨rfl, ⟨nd, rfl⟩⟩; refine ⟨_, rfl, ?_⟩))
         go_loopg [] kj24 (fun kq w' => ∃ (x215002_2 : Int), Aside0 (orielref05_Next.l1 kq a0 3 a1 x215002_2 = some (r1, r2, r3)) ∧ Aside0 (kq ≤ kj24) ∧ Aside0 (w'.heap[gb213]? = some (.cells #[.int .i64 0, .int .i64 0, .int .i64 0] 51 (0, 0))) ∧ Aside0 (w'.heap[gb214]? = some (.cells #[.int .i64 3, .int .i64 a1, .int .i64 x215002_2] 51 (0, 0))) ∧ Aside0 (Below w.heap.size w w'))
         case atStart => exact ⟨((wrap64 (a1 + 1))), H', ⟨Nat.le_refl _⟩, ⟨by (with_reducible repeat (refine blk_drewN ?_ _)); exact BK213.out⟩, ⟨by (with_reducible repeat (refine blk_drewN ?_ _)); exact BK214.out⟩, ⟨by repeat ((with_reducible first | exact HB.out | apply pw_below_drewN ))⟩⟩
         case round =>
          clear H'
          clear c44b0 c44b1 c46b0
          obtain ⟨x215002_2, HA, HK2, BK213, BK214, HB⟩ := hrel
          cases gk with
          | zero => exact absurd HA.out (by simp [orielref05_Next.l1])
          | succ k2 =>
           have H := HA.out
           clear HA
           simp only [orielref05_Next.l1] at H
           by_cases c50 : x215002_2 < (a0.size : Int)
           ·rw [if_pos c50] at H
            have c50b0 : decide (x215002_2 < (a0.size : Int)) = true := decide_eq_true c50
            clear c50
            by_cases c51 : 0 ≤ x215002_2
            ·rw [if_pos c51] at H
             have c51b0 : decide (0 ≤ x215002_2) = true := decide_eq_true c51
             clear c51
             by_cases c53 : (bt a0 x215002_2) = 10
             ·rw [if_pos c53] at H
              have c53b0 : ((bt a0 x215002_2) == 10) = true := beq_iff_eq.mpr c53
              have c53b1 : ((bt a0 x215002_2) != 10) = false := bne_eq_false_iff_eq.mpr c53
              clear c53
              simp only [Option.some.injEq, Prod.mk.injEq] at H
              obtain ⟨rfl, rfl, rfl⟩ := H
              have hnb54 := NB214_213.out
              have hnc54 := NB213_214.out
              have hcz55_0 : wr.cell? ⟨gb214, 0, none⟩ = some (.int .i64 3) := (blk_cell BK214.out 0).trans rfl
              have hcz55_1 : wr.cell? ⟨gb214, 1, none⟩ = some (.int .i64 a1) := (blk_cell BK214.out 1).trans rfl
              have hcz55_2 : wr.cell? ⟨gb214, 2, none⟩ = some (.int .i64 x215002_2) := (blk_cell BK214.out 2).trans rfl
              have hfz55_0 := blk_frozen BK214.out 0
              have hfz55_1 := blk_frozen BK214.out 1
              have hfz55_2 := blk_frozen BK214.out 2
              have p52 : 0 ≤ (x215002_2 : Int) := of_decide_eq_true (by with_reducible assumption)
              have q52 : x215002_2 < (a0.size : Int) := of_decide_eq_true (by with_reducible assumption)
              have hx52 := bt_at a0 x215002_2
              replace p52 := eq_true p52
              replace q52 := eq_true q52
              have hcz56_0 : wr.cell? ⟨gb213, 0, none⟩ = some (.int .i64 0) := (blk_cell BK213.out 0).trans rfl
              have hcz56_1 : wr.cell? ⟨gb213, 1, none⟩ = some (.int .i64 0) := (blk_cell BK213.out 1).trans rfl
              have hcz56_2 : wr.cell? ⟨gb213, 2, none⟩ = some (.int .i64 0) := (blk_cell BK213.out 2).trans rfl
              have hfz56_0 := blk_frozen BK213.out 0
              have hfz56_1 := blk_frozen BK213.out 1
              have hfz56_2 := blk_frozen BK213.out 2
              go_wp2
              refine bodyPost_ret (results_cell_row rfl _ _ gb213 51 #[.int .i64 3, .int .i64 a1, .int .i64 x215002_2] (0, 0) _ rfl (by (with_reducible repeat (fail)); refine blk_put (cs := #[.int .i64 3, .int .i64 a1, .int .i64 0]) ?_ 2 _ rfl; (with_reducible repeat (fail)); refine blk_put (cs := #[.int .i64 3, .int .i64 0, .int .i64 0]) ?_ 1 _ rfl; (with_reducible repeat (fail)); refine blk_put (cs := #[.int .i64 0, .int .i64 0, .int .i64 0]) ?_ 0 _ rfl; (with_reducible repeat (fail)); exact BK213.out) Tryz.underlying51 rfl (by kernel_rfl)) rfl ?_
              exact ⟨by rfl, by repeat ((with_reducible first | exact HB.out | refine below_set ?_ GE213.out ))⟩
             ·rw [if_neg c53] at H
              have c53b0 : ((bt a0 x215002_2) == 10) = false := beq_eq_false_iff_ne.mpr c53
              have c53b1 : ((bt a0 x215002_2) != 10) = true := bne_iff_ne.mpr c53
              have H' := Aside0.mk H
              clear H
              have hnb57 := NB214_213.out
              have hnc57 := NB213_214.out
              have hcz58_0 : wr.cell? ⟨gb214, 0, none⟩ = some (.int .i64 3) := (blk_cell BK214.out 0).trans rfl
              have hcz58_1 : wr.cell? ⟨gb214, 1, none⟩ = some (.int .i64 a1) := (blk_cell BK214.out 1).trans rfl
              have hcz58_2 : wr.cell? ⟨gb214, 2, none⟩ = some (.int .i64 x215002_2) := (blk_cell BK214.out 2).trans rfl
              have hfz58_0 := blk_frozen BK214.out 0
              have hfz58_1 := blk_frozen BK214.out 1
              have hfz58_2 := blk_frozen BK214.out 2
              have p52 : 0 ≤ (x215002_2 : Int) := of_decide_eq_true (by with_reducible assumption)
              have q52 : x215002_2 < (a0.size : Int) := of_decide_eq_true (by with_reducible assumption)
              have hx52 := bt_at a0 x215002_2
              replace p52 := eq_true p52
              replace q52 := eq_true q52
              go_wp2
              go_roundg k2
              case measure => have := HJ24.out; have := HK2.out; omega
              case rel => exact ⟨(wrap64 (x215002_2 + 1)), H', ⟨by have := HJ24.out; have := HK2.out; omega⟩, ⟨by (with_reducible repeat (fail)); refine blk_far ?_ NB213_214.out _; (with_reducible repeat (fail)); exact BK213.out⟩, ⟨by (with_reducible repeat (fail)); refine blk_put (cs := #[.int .i64 3, .int .i64 a1, .int .i64 x215002_2]) ?_ 2 _ rfl; (with_reducible repeat (fail)); exact BK214.out⟩, ⟨by repeat ((with_reducible first | exact HB.out | refine below_set ?_ GE214.out))⟩⟩
            ·rw [if_neg c51] at H
             exact absurd H (by simp)
           ·rw [if_neg c50] at H
            have c50b0 : decide (x215002_2 < (a0.size : Int)) = false := decide_eq_false c50
            clear c50
            simp only [Option.some.injEq, Prod.mk.injEq] at H
            obtain ⟨rfl, rfl, rfl⟩ := H
            have hnb59 := NB214_213.out
            have hnc59 := NB213_214.out
            have hcz60_0 : wr.cell? ⟨gb214, 0, none⟩ = some (.int .i64 3) := (blk_cell BK214.out 0).trans rfl
            have hcz60_1 : wr.cell? ⟨gb214, 1, none⟩ = some (.int .i64 a1) := (blk_cell BK214.out 1).trans rfl
            have hcz60_2 : wr.cell? ⟨gb214, 2, none⟩ = some (.int .i64 x215002_2) := (blk_cell BK214.out 2).trans rfl
            have hfz60_0 := blk_frozen BK214.out 0
            have hfz60_1 := blk_frozen BK214.out 1
            have hfz60_2 := blk_frozen BK214.out 2
            have hcz61_0 : wr.cell? ⟨gb213, 0, none⟩ = some (.int .i64 0) := (blk_cell BK213.out 0).trans rfl
            have hcz61_1 : wr.cell? ⟨gb213, 1, none⟩ = some (.int .i64 0) := (blk_cell BK213.out 1).trans rfl
            have hcz61_2 : wr.cell? ⟨gb213, 2, none⟩ = some (.int .i64 0) := (blk_cell BK213.out 2).trans rfl
            have hfz61_0 := blk_frozen BK213.out 0
            have hfz61_1 := blk_frozen BK213.out 1
            have hfz61_2 := blk_frozen BK213.out 2
            go_wp2
            refine bodyPost_ret (results_cell_row rfl _ _ gb213 51 #[.int .i64 3, .int .i64 a1, .int .i64 x215002_2] (0, 0) _ rfl (by (with_reducible repeat (fail)); refine blk_put (cs := #[.int .i64 3, .int .i64 a1, .int .i64 0]) ?_ 2 _ rfl; (with_reducible repeat (fail)); refine blk_put (cs := #[.int .i64 3, .int .i64 0, .int .i64 0]) ?_ 1 _ rfl; (with_reducible repeat (fail)); refine blk_put (cs := #[.int .i64 0, .int .i64 0, .int .i64 0]) ?_ 0 _ rfl; (with_reducible repeat (fail)); exact BK213.out) Tryz.underlying51 rfl (by kernel_rfl)) rfl ?_
            exact ⟨by rfl, by repeat ((with_reducible first | exact HB.out | refine below_set ?_ GE213.out ))⟩
       ·rw [if_neg c44] at H
        have c44b0 : ((bt a0 a1) == 34) = false := beq_eq_false_iff_ne.mpr c44
        have c44b1 : ((bt a0 a1) != 34) = true := bne_iff_ne.mpr c44
        replace H := Option.bind_eq_some_iff.mp H
        obtain ⟨t219, A620, H⟩ := H
        replace H : (if t219 = true then ((orielref05_digit.f (bt a0 a1)).bind fun t220 => (orielref05_Next.l2 kj24 a0 a1 t220 3 a1 (wrap64 (a1 + 1)))) else ((orielref04_Signs.f kj24 (bt a0 a1)).bind fun t224 => (if t224 = true then (orielref05_Next.l3 kj24 a0 a1 3 a1 (wrap64 (a1 + 1))) else (if 0 ≤ a1 then (if a1 ≤ (wrap64 (a1 + 1)) then (if (wrap64 (a1 + 1)) ≤ (a0.size : Int) then ((orielref04_Kind.f kj24 (a0.extract (a1 : Int).toNat ((wrap64 (a1 + 1)) : Int).toNat)).bind fun t228 => (if t228 = 0 then (some (3, a1, (wrap64 (a1 + 1)))) else (some (t228, a1, (wrap64 (a1 + 1)))))) else (none)) else (none)) else (none))))) = some (r1, r2, r3) := H
        have A62 := Aside0.mk A620
        clear A620
        by_cases c63 : t219 = true
        ·subst c63
         have H1 : ((orielref05_digit.f (bt a0 a1)).bind fun t220 => (orielref05_Next.l2 kj24 a0 a1 t220 3 a1 (wrap64 (a1 + 1)))) = some (r1, r2, r3) := by rw [if_pos rfl] at H; exact H
         clear H
         have H := H1
         clear H1
         replace H := Option.bind_eq_some_iff.mp H
         obtain ⟨t220, A640, H⟩ := H
         replace H : (orielref05_Next.l2 kj24 a0 a1 t220 3 a1 (wrap64 (a1 + 1))) = some (r1, r2, r3) := H
         have A64 := Aside0.mk A640
         clear A640
         have HC65 := Aside0.mk H
         clear H
         go_upto_block 4 with (first | ((with_reducible refine gate_callee (f := 25) rfl ?_); refine goesL_ (some 95) rfl rfl Tryz.func25 (by kernel_rfl) rfl #[.int .u8 (bt a0 a1)] rfl (by (try simp only [List.map_toArray, List.map_cons, List.map_nil]); rfl) ?_; (with_reducible refine (orielref04_Rest.calls (bt a0 a1) true _ A62.out).mono ?_); rintro e w' ⟨rfl, ⟨nd, rfl⟩⟩; refine ⟨_, rfl, ?_⟩) | ((with_reducible refine gate_callee (f := 74) rfl ?_); refine goesL_ (some 97) rfl rfl Tryz.func74 (by kernel_rfl) rfl #[.int .u8 (bt a0 a1)] rfl (by (try simp only [List.map_toArray, List.map_cons, List.map_nil]); rfl) ?_; (with_reducible refine (orielref05_digit.calls (bt a0 a1) t220 _ A64.out).mono ?_); rintro e w' ⟨rfl, ⟨nd, rfl⟩⟩; refine ⟨_, rfl, ?_⟩))
         (try simp only [Act.put, List.setIfInBounds_toArray, List.set_cons_zero, List.set_cons_succ])
         go_cut [9] (fun v9 wc => ∃ (kq : Nat) (x9_64 : Bool) (x215002_64 : Int), v9 = .bool x9_64 ∧ Aside0 (orielref05_Next.j4 kq a0 a1 x9_64 3 a1 x215002_64 = some (r1, r2, r3)) ∧ Aside0 (kq ≤ kj24) ∧ Aside0 (wc.heap[gb213]? = some (.cells #[.int .i64 0, .int .i64 0, .int .i64 0] 51 (0, 0))) ∧ Aside0 (wc.heap[gb214]? = some (.cells #[.int .i64 3, .int .i64 a1, .int .i64 x215002_64] 51 (0, 0))) ∧ Aside0 (Below w.heap.size w wc))
         case first =>
          have H := HC65.out
          clear HC65
          have H' := Aside0.mk H
          clear H
          go_wp2
          go_loopg [9] kj24 (fun kq v9 w' => ∃ (x9_2 : Bool) (x215002_2 : Int), v9 = .bool x9_2 ∧ Aside0 (orielref05_Next.l2 kq a0 a1 x9_2 3 a1 x215002_2 = some (r1, r2, r3)) ∧ Aside0 (kq ≤ kj24) ∧ Aside0 (w'.heap[gb213]? = some (.cells #[.int .i64 0, .int .i64 0, .int .i64 0] 51 (0, 0))) ∧ Aside0 (w'.heap[gb214]? = some (.cells #[.int .i64 3, .int .i64 a1, .int .i64 x215002_2] 51 (0, 0))) ∧ Aside0 (Below w.heap.size w w'))
          case atStart => exact ⟨(t220), ((wrap64 (a1 + 1))), (by rfl), H', ⟨Nat.le_refl _⟩, ⟨by (with_reducible repeat (refine blk_drewN ?_ _)); exact BK213.out⟩, ⟨by (with_reducible repeat (refine blk_drewN ?_ _)); exact BK214.out⟩, ⟨by repeat ((with_reducible first | exact HB.out | apply pw_below_drewN ))⟩⟩
          case round =>
           clear H'
           clear c44 c44b0 c44b1
           obtain ⟨x9_2, x215002_2, rfl, HA, HK2, BK213, BK214, HB⟩ := hrel
           cases gk with
           | zero => exact absurd HA.out (by simp [orielref05_Next.l2])
           | succ k2 =>
            have H := HA.out
            clear HA
            simp only [orielref05_Next.l2] at H
            by_cases c66 : x215002_2 < (a0.size : Int)
            ·rw [if_pos c66] at H
             have c66b0 : decide (x215002_2 < (a0.size : Int)) = true := decide_eq_true c66
             clear c66
             (skip)
             by_cases c67 : 0 ≤ x215002_2
             ·rw [if_pos c67] at H
              have c67b0 : decide (0 ≤ x215002_2) = true := decide_eq_true c67
              clear c67
              replace H := Option.bind_eq_some_iff.mp H
              obtain ⟨t221, A690, H⟩ := H
              replace H : (if t221 = true then (if x9_2 = true then ((orielref05_digit.f (bt a0 x215002_2)).bind fun t222 => (orielref05_Next.l2 k2 a0 a1 t222 3 a1 (wrap64 (x215002_2 + 1)))) else (orielref05_Next.l2 k2 a0 a1 false 3 a1 (wrap64 (x215002_2 + 1)))) else (orielref05_Next.j4 k2 a0 a1 x9_2 3 a1 x215002_2)) = some (r1, r2, r3) := H
              have A69 := Aside0.mk A690
              clear A690
              by_cases c70 : t221 = true
              ·subst c70
               have H1 : (if x9_2 = true then ((orielref05_digit.f (bt a0 x215002_2)).bind fun t222 => (orielref05_Next.l2 k2 a0 a1 t222 3 a1 (wrap64 (x215002_2 + 1)))) else (orielref05_Next.l2 k2 a0 a1 false 3 a1 (wrap64 (x215002_2 + 1)))) = some (r1, r2, r3) := by rw [if_pos rfl] at H; exact H
               clear H
               have H := H1
               clear H1
               by_cases c71 : x9_2 = true
               ·subst c71
                have H1 : ((orielref05_digit.f (bt a0 x215002_2)).bind fun t222 => (orielref05_Next.l2 k2 a0 a1 t222 3 a1 (wrap64 (x215002_2 + 1)))) = some (r1, r2, r3) := by rw [if_pos rfl] at H; exact H
                clear H
                have H := H1
                clear H1
                replace H := Option.bind_eq_some_iff.mp H
                obtain ⟨t222, A730, H⟩ := H
                replace H : (orielref05_Next.l2 k2 a0 a1 t222 3 a1 (wrap64 (x215002_2 + 1))) = some (r1, r2, r3) := H
                have A73 := Aside0.mk A730
                clear A730
                have H' := Aside0.mk H
                clear H
                have hnb74 := NB214_213.out
                have hnc74 := NB213_214.out
                have hcz75_0 : wr.cell? ⟨gb214, 0, none⟩ = some (.int .i64 3) := (blk_cell BK214.out 0).trans rfl
                have hcz75_1 : wr.cell? ⟨gb214, 1, none⟩ = some (.int .i64 a1) := (blk_cell BK214.out 1).trans rfl
                have hcz75_2 : wr.cell? ⟨gb214, 2, none⟩ = some (.int .i64 x215002_2) := (blk_cell BK214.out 2).trans rfl
                have hfz75_0 := blk_frozen BK214.out 0
                have hfz75_1 := blk_frozen BK214.out 1
                have hfz75_2 := blk_frozen BK214.out 2
                have p68 : 0 ≤ (x215002_2 : Int) := of_decide_eq_true (by with_reducible assumption)
                have q68 : x215002_2 < (a0.size : Int) := of_decide_eq_true (by with_reducible assumption)
                have hx68 := bt_at a0 x215002_2
                replace p68 := eq_true p68
                replace q68 := eq_true q68
                go_wp2_with (first | (go_at_call 25; (with_reducible refine (orielref04_Rest.calls (bt a0 x215002_2) true _ A69.out).mono ?_); rintro e w' ⟨rfl, ⟨nd, rfl⟩⟩; (try (rw [drewN_self wr]; generalize hq_ : World.drewN wr _ = wr; have n0_ : Aside0 (wr.heap[gb213]? = some (.cells #[.int .i64 0, .int .i64 0, .int .i64 0] 51 (0, 0))) := ⟨by rw [← hq_]; exact (by (with_reducible repeat (refine blk_drewN ?_ _)); exact BK213.out)⟩; have n1_ : Aside0 (wr.heap[gb214]? = some (.cells #[.int .i64 3, .int .i64 a1, .int .i64 x215002_2] 51 (0, 0))) := ⟨by rw [← hq_]; exact (by (with_reducible repeat (refine blk_drewN ?_ _)); exact BK214.out)⟩; have n2_ : Aside0 (Below w.heap.size w wr) := ⟨by rw [← hq_]; exact (by repeat ((with_reducible first | exact HB.out | apply pw_below_drewN )))⟩; clear BK213 BK214 HB hq_; have BK213 := n0_; have BK214 := n1_; have HB := n2_; clear n0_ n1_ n2_; have hcy3_gb213_0 : wr.cell? ⟨gb213, 0, none⟩ = some (.int .i64 0) := (blk_cell BK213.out 0).trans rfl; have hfy3_gb213_0 := blk_frozen BK213.out 0; have hcy3_gb213_1 : wr.cell? ⟨gb213, 1, none⟩ = some (.int .i64 0) := (blk_cell BK213.out 1).trans rfl; have hfy3_gb213_1 := blk_frozen BK213.out 1; have hcy3_gb213_2 : wr.cell? ⟨gb213, 2, none⟩ = some (.int .i64 0) := (blk_cell BK213.out 2).trans rfl; have hfy3_gb213_2 := blk_frozen BK213.out 2; have hcy3_gb214_0 : wr.cell? ⟨gb214, 0, none⟩ = some (.int .i64 3) := (blk_cell BK214.out 0).trans rfl; have hfy3_gb214_0 := blk_frozen BK214.out 0; have hcy3_gb214_1 : wr.cell? ⟨gb214, 1, none⟩ = some (.int .i64 a1) := (blk_cell BK214.out 1).trans rfl; have hfy3_gb214_1 := blk_frozen BK214.out 1; have hcy3_gb214_2 : wr.cell? ⟨gb214, 2, none⟩ = some (.int .i64 x215002_2) := (blk_cell BK214.out 2).trans rfl; have hfy3_gb214_2 := blk_frozen BK214.out 2)); have p72 : 0 ≤ (x215002_2 : Int) := of_decide_eq_true (by with_reducible assumption); have q72 : x215002_2 < (a0.size : Int) := of_decide_eq_true (by with_reducible assumption); have hx72 := bt_at a0 x215002_2; replace p72 := eq_true p72; replace q72 := eq_true q72) | (go_at_call 74; (with_reducible refine (orielref05_digit.calls (bt a0 x215002_2) t222 _ A73.out).mono ?_); rintro e w' ⟨rfl, ⟨nd, rfl⟩⟩; (try (rw [drewN_self wr]; generalize hq_ : World.drewN wr _ = wr; have n0_ : Aside0 (wr.heap[gb213]? = some (.cells #[.int .i64 0, .int .i64 0, .int .i64 0] 51 (0, 0))) := ⟨by rw [← hq_]; exact (by (with_reducible repeat (refine blk_drewN ?_ _)); exact BK213.out)⟩; have n1_ : Aside0 (wr.heap[gb214]? = some (.cells #[.int .i64 3, .int .i64 a1, .int .i64 x215002_2] 51 (0, 0))) := ⟨by rw [← hq_]; exact (by (with_reducible repeat (refine blk_drewN ?_ _)); exact BK214.out)⟩; have n2_ : Aside0 (Below w.heap.size w wr) := ⟨by rw [← hq_]; exact (by repeat ((with_reducible first | exact HB.out | apply pw_below_drewN )))⟩; clear BK213 BK214 HB hq_; have BK213 := n0_; have BK214 := n1_; have HB := n2_; clear n0_ n1_ n2_; have hcy4_gb213_0 : wr.cell? ⟨gb213, 0, none⟩ = some (.int .i64 0) := (blk_cell BK213.out 0).trans rfl; have hfy4_gb213_0 := blk_frozen BK213.out 0; have hcy4_gb213_1 : wr.cell? ⟨gb213, 1, none⟩ = some (.int .i64 0) := (blk_cell BK213.out 1).trans rfl; have hfy4_gb213_1 := blk_frozen BK213.out 1; have hcy4_gb213_2 : wr.cell? ⟨gb213, 2, none⟩ = some (.int .i64 0) := (blk_cell BK213.out 2).trans rfl; have hfy4_gb213_2 := blk_frozen BK213.out 2; have hcy4_gb214_0 : wr.cell? ⟨gb214, 0, none⟩ = some (.int .i64 3) := (blk_cell BK214.out 0).trans rfl; have hfy4_gb214_0 := blk_frozen BK214.out 0; have hcy4_gb214_1 : wr.cell? ⟨gb214, 1, none⟩ = some (.int .i64 a1) := (blk_cell BK214.out 1).trans rfl; have hfy4_gb214_1 := blk_frozen BK214.out 1; have hcy4_gb214_2 : wr.cell? ⟨gb214, 2, none⟩ = some (.int .i64 x215002_2) := (blk_cell BK214.out 2).trans rfl; have hfy4_gb214_2 := blk_frozen BK214.out 2))))
                go_roundg k2
                case measure => have := HJ24.out; have := HK2.out; omega
                case rel => exact ⟨(t222), (wrap64 (x215002_2 + 1)), (by rfl), H', ⟨by have := HJ24.out; have := HK2.out; omega⟩, ⟨by (with_reducible repeat (fail)); refine blk_far ?_ NB213_214.out _; (with_reducible repeat (fail)); exact BK213.out⟩, ⟨by (with_reducible repeat (fail)); refine blk_put (cs := #[.int .i64 3, .int .i64 a1, .int .i64 x215002_2]) ?_ 2 _ rfl; (with_reducible repeat (fail)); exact BK214.out⟩, ⟨by repeat ((with_reducible first | exact HB.out | refine below_set ?_ GE214.out))⟩⟩
               ·replace c71 := Bool.eq_false_iff.mpr c71
                subst c71
                have H1 : (orielref05_Next.l2 k2 a0 a1 false 3 a1 (wrap64 (x215002_2 + 1))) = some (r1, r2, r3) := by rw [if_neg (show ¬ (false = true) by decide)] at H; exact H
                clear H
                have H := H1
                clear H1
                have H' := Aside0.mk H
                clear H
                have hnb76 := NB214_213.out
                have hnc76 := NB213_214.out
                have hcz77_0 : wr.cell? ⟨gb214, 0, none⟩ = some (.int .i64 3) := (blk_cell BK214.out 0).trans rfl
                have hcz77_1 : wr.cell? ⟨gb214, 1, none⟩ = some (.int .i64 a1) := (blk_cell BK214.out 1).trans rfl
                have hcz77_2 : wr.cell? ⟨gb214, 2, none⟩ = some (.int .i64 x215002_2) := (blk_cell BK214.out 2).trans rfl
                have hfz77_0 := blk_frozen BK214.out 0
                have hfz77_1 := blk_frozen BK214.out 1
                have hfz77_2 := blk_frozen BK214.out 2
                have p68 : 0 ≤ (x215002_2 : Int) := of_decide_eq_true (by with_reducible assumption)
                have q68 : x215002_2 < (a0.size : Int) := of_decide_eq_true (by with_reducible assumption)
                have hx68 := bt_at a0 x215002_2
                replace p68 := eq_true p68
                replace q68 := eq_true q68
                go_wp2_with ((go_at_call 25; (with_reducible refine (orielref04_Rest.calls (bt a0 x215002_2) true _ A69.out).mono ?_); rintro e w' ⟨rfl, ⟨nd, rfl⟩⟩; (try (rw [drewN_self wr]; generalize hq_ : World.drewN wr _ = wr; have n0_ : Aside0 (wr.heap[gb213]? = some (.cells #[.int .i64 0, .int .i64 0, .int .i64 0] 51 (0, 0))) := ⟨by rw [← hq_]; exact (by (with_reducible repeat (refine blk_drewN ?_ _)); exact BK213.out)⟩; have n1_ : Aside0 (wr.heap[gb214]? = some (.cells #[.int .i64 3, .int .i64 a1, .int .i64 x215002_2] 51 (0, 0))) := ⟨by rw [← hq_]; exact (by (with_reducible repeat (refine blk_drewN ?_ _)); exact BK214.out)⟩; have n2_ : Aside0 (Below w.heap.size w wr) := ⟨by rw [← hq_]; exact (by repeat ((with_reducible first | exact HB.out | apply pw_below_drewN )))⟩; clear BK213 BK214 HB hq_; have BK213 := n0_; have BK214 := n1_; have HB := n2_; clear n0_ n1_ n2_; have hcy5_gb213_0 : wr.cell? ⟨gb213, 0, none⟩ = some (.int .i64 0) := (blk_cell BK213.out 0).trans rfl; have hfy5_gb213_0 := blk_frozen BK213.out 0; have hcy5_gb213_1 : wr.cell? ⟨gb213, 1, none⟩ = some (.int .i64 0) := (blk_cell BK213.out 1).trans rfl; have hfy5_gb213_1 := blk_frozen BK213.out 1; have hcy5_gb213_2 : wr.cell? ⟨gb213, 2, none⟩ = some (.int .i64 0) := (blk_cell BK213.out 2).trans rfl; have hfy5_gb213_2 := blk_frozen BK213.out 2; have hcy5_gb214_0 : wr.cell? ⟨gb214, 0, none⟩ = some (.int .i64 3) := (blk_cell BK214.out 0).trans rfl; have hfy5_gb214_0 := blk_frozen BK214.out 0; have hcy5_gb214_1 : wr.cell? ⟨gb214, 1, none⟩ = some (.int .i64 a1) := (blk_cell BK214.out 1).trans rfl; have hfy5_gb214_1 := blk_frozen BK214.out 1; have hcy5_gb214_2 : wr.cell? ⟨gb214, 2, none⟩ = some (.int .i64 x215002_2) := (blk_cell BK214.out 2).trans rfl; have hfy5_gb214_2 := blk_frozen BK214.out 2))))
                go_roundg k2
                case measure => have := HJ24.out; have := HK2.out; omega
                case rel => exact ⟨(false), (wrap64 (x215002_2 + 1)), (by rfl), H', ⟨by have := HJ24.out; have := HK2.out; omega⟩, ⟨by (with_reducible repeat (fail)); refine blk_far ?_ NB213_214.out _; (with_reducible repeat (fail)); exact BK213.out⟩, ⟨by (with_reducible repeat (fail)); refine blk_put (cs := #[.int .i64 3, .int .i64 a1, .int .i64 x215002_2]) ?_ 2 _ rfl; (with_reducible repeat (fail)); exact BK214.out⟩, ⟨by repeat ((with_reducible first | exact HB.out | refine below_set ?_ GE214.out))⟩⟩
              ·replace c70 := Bool.eq_false_iff.mpr c70
               subst c70
               have H1 : (orielref05_Next.j4 k2 a0 a1 x9_2 3 a1 x215002_2) = some (r1, r2, r3) := by rw [if_neg (show ¬ (false = true) by decide)] at H; exact H
               clear H
               have H := H1
               clear H1
               have H' := Aside0.mk H
               clear H
               have hnb78 := NB214_213.out
               have hnc78 := NB213_214.out
               have hcz79_0 : wr.cell? ⟨gb214, 0, none⟩ = some (.int .i64 3) := (blk_cell BK214.out 0).trans rfl
               have hcz79_1 : wr.cell? ⟨gb214, 1, none⟩ = some (.int .i64 a1) := (blk_cell BK214.out 1).trans rfl
               have hcz79_2 : wr.cell? ⟨gb214, 2, none⟩ = some (.int .i64 x215002_2) := (blk_cell BK214.out 2).trans rfl
               have hfz79_0 := blk_frozen BK214.out 0
               have hfz79_1 := blk_frozen BK214.out 1
               have hfz79_2 := blk_frozen BK214.out 2
               have p68 : 0 ≤ (x215002_2 : Int) := of_decide_eq_true (by with_reducible assumption)
               have q68 : x215002_2 < (a0.size : Int) := of_decide_eq_true (by with_reducible assumption)
               have hx68 := bt_at a0 x215002_2
               replace p68 := eq_true p68
               replace q68 := eq_true q68
               go_wp2_with ((go_at_call 25; (with_reducible refine (orielref04_Rest.calls (bt a0 x215002_2) false _ A69.out).mono ?_); rintro e w' ⟨rfl, ⟨nd, rfl⟩⟩))
               go_meet
               case rel => exact ⟨_, (x9_2), (x215002_2), (by rfl), H', ⟨by have := HJ24.out; have := HK2.out; omega⟩, ⟨by (with_reducible repeat (refine blk_drewN ?_ _)); exact BK213.out⟩, ⟨by (with_reducible repeat (refine blk_drewN ?_ _)); exact BK214.out⟩, ⟨by repeat ((with_reducible first | exact HB.out | apply pw_below_drewN ))⟩⟩
             ·rw [if_neg c67] at H
              exact absurd H (by simp)
            ·rw [if_neg c66] at H
             have c66b0 : decide (x215002_2 < (a0.size : Int)) = false := decide_eq_false c66
             clear c66
             (skip)
             have H' := Aside0.mk H
             clear H
             have hnb80 := NB214_213.out
             have hnc80 := NB213_214.out
             have hcz81_0 : wr.cell? ⟨gb214, 0, none⟩ = some (.int .i64 3) := (blk_cell BK214.out 0).trans rfl
             have hcz81_1 : wr.cell? ⟨gb214, 1, none⟩ = some (.int .i64 a1) := (blk_cell BK214.out 1).trans rfl
             have hcz81_2 : wr.cell? ⟨gb214, 2, none⟩ = some (.int .i64 x215002_2) := (blk_cell BK214.out 2).trans rfl
             have hfz81_0 := blk_frozen BK214.out 0
             have hfz81_1 := blk_frozen BK214.out 1
             have hfz81_2 := blk_frozen BK214.out 2
             go_wp2
             go_meet
             case rel => exact ⟨_, (x9_2), (x215002_2), (by rfl), H', ⟨by have := HJ24.out; have := HK2.out; omega⟩, ⟨by (with_reducible repeat (fail)); exact BK213.out⟩, ⟨by (with_reducible repeat (fail)); exact BK214.out⟩, ⟨by repeat (with_reducible exact HB.out)⟩⟩
         case rest =>
          clear HC65
          clear c44 c44b0 c44b1
          obtain ⟨kq, x9_64, x215002_64, rfl, HA, HJ64, BK213, BK214, HB⟩ := hcut
          cases kq with
          | zero => exact absurd HA.out (by simp [orielref05_Next.j4])
          | succ kj64 =>
           have H := HA.out
           clear HA
           simp only [orielref05_Next.j4] at H
           by_cases c82 : x9_64 = true
           ·subst c82
            have H1 : (some (4, a1, x215002_64)) = some (r1, r2, r3) := by rw [if_pos rfl] at H; exact H
            clear H
            have H := H1
            clear H1
            simp only [Option.some.injEq, Prod.mk.injEq] at H
            obtain ⟨rfl, rfl, rfl⟩ := H
            have hnb83 := NB214_213.out
            have hnc83 := NB213_214.out
            have hcz84_0 : wc.cell? ⟨gb214, 0, none⟩ = some (.int .i64 3) := (blk_cell BK214.out 0).trans rfl
            have hcz84_1 : wc.cell? ⟨gb214, 1, none⟩ = some (.int .i64 a1) := (blk_cell BK214.out 1).trans rfl
            have hcz84_2 : wc.cell? ⟨gb214, 2, none⟩ = some (.int .i64 x215002_64) := (blk_cell BK214.out 2).trans rfl
            have hfz84_0 := blk_frozen BK214.out 0
            have hfz84_1 := blk_frozen BK214.out 1
            have hfz84_2 := blk_frozen BK214.out 2
            have hcz85_0 : wc.cell? ⟨gb213, 0, none⟩ = some (.int .i64 0) := (blk_cell BK213.out 0).trans rfl
            have hcz85_1 : wc.cell? ⟨gb213, 1, none⟩ = some (.int .i64 0) := (blk_cell BK213.out 1).trans rfl
            have hcz85_2 : wc.cell? ⟨gb213, 2, none⟩ = some (.int .i64 0) := (blk_cell BK213.out 2).trans rfl
            have hfz85_0 := blk_frozen BK213.out 0
            have hfz85_1 := blk_frozen BK213.out 1
            have hfz85_2 := blk_frozen BK213.out 2
            go_wp2
            refine bodyPost_ret (results_cell_row rfl _ _ gb213 51 #[.int .i64 4, .int .i64 a1, .int .i64 x215002_64] (0, 0) _ rfl (by (with_reducible repeat (fail)); refine blk_put (cs := #[.int .i64 4, .int .i64 a1, .int .i64 0]) ?_ 2 _ rfl; (with_reducible repeat (fail)); refine blk_put (cs := #[.int .i64 4, .int .i64 0, .int .i64 0]) ?_ 1 _ rfl; (with_reducible repeat (fail)); refine blk_put (cs := #[.int .i64 0, .int .i64 0, .int .i64 0]) ?_ 0 _ rfl; (with_reducible repeat (fail)); refine blk_far ?_ NB213_214.out _; (with_reducible repeat (fail)); exact BK213.out) Tryz.underlying51 rfl (by kernel_rfl)) rfl ?_
            exact ⟨by rfl, by repeat ((with_reducible first | exact HB.out | refine below_set ?_ GE213.out | refine below_set ?_ GE214.out))⟩
           ·replace c82 := Bool.eq_false_iff.mpr c82
            subst c82
            have H1 : (if 0 ≤ a1 then (if a1 ≤ x215002_64 then (if x215002_64 ≤ (a0.size : Int) then ((orielref04_Kind.f kj64 (a0.extract (a1 : Int).toNat (x215002_64 : Int).toNat)).bind fun t223 => (if t223 = 0 then (some (3, a1, x215002_64)) else (some (t223, a1, x215002_64)))) else (none)) else (none)) else (none)) = some (r1, r2, r3) := by rw [if_neg (show ¬ (false = true) by decide)] at H; exact H
            clear H
            have H := H1
            clear H1
            by_cases c86 : 0 ≤ a1
            ·rw [if_pos c86] at H
             have c86b0 := eq_true c86
             have c86b1 : decide (0 ≤ a1) = true := decide_eq_true c86
             clear c86
             by_cases c87 : a1 ≤ x215002_64
             ·rw [if_pos c87] at H
              have c87b0 := eq_true c87
              have c87b1 : decide (a1 ≤ x215002_64) = true := decide_eq_true c87
              clear c87
              by_cases c88 : x215002_64 ≤ (a0.size : Int)
              ·rw [if_pos c88] at H
               have c88b0 := eq_true c88
               have c88b1 : decide (x215002_64 ≤ (a0.size : Int)) = true := decide_eq_true c88
               clear c88
               replace H := Option.bind_eq_some_iff.mp H
               obtain ⟨t223, A890, H⟩ := H
               replace H : (if t223 = 0 then (some (3, a1, x215002_64)) else (some (t223, a1, x215002_64))) = some (r1, r2, r3) := H
               have A89 := Aside0.mk A890
               clear A890
               by_cases c90 : t223 = 0
               ·rw [if_pos c90] at H
                have c90b0 : (t223 == 0) = true := beq_iff_eq.mpr c90
                have c90b1 : (t223 != 0) = false := bne_eq_false_iff_eq.mpr c90
                clear c90
                simp only [Option.some.injEq, Prod.mk.injEq] at H
                obtain ⟨rfl, rfl, rfl⟩ := H
                have hnb91 := NB214_213.out
                have hnc91 := NB213_214.out
                have hcz92_0 : wc.cell? ⟨gb214, 0, none⟩ = some (.int .i64 3) := (blk_cell BK214.out 0).trans rfl
                have hcz92_1 : wc.cell? ⟨gb214, 1, none⟩ = some (.int .i64 a1) := (blk_cell BK214.out 1).trans rfl
                have hcz92_2 : wc.cell? ⟨gb214, 2, none⟩ = some (.int .i64 x215002_64) := (blk_cell BK214.out 2).trans rfl
                have hfz92_0 := blk_frozen BK214.out 0
                have hfz92_1 := blk_frozen BK214.out 1
                have hfz92_2 := blk_frozen BK214.out 2
                go_wp2_with (((with_reducible refine gate_callee (f := 10) rfl ?_); refine goesL_ (some 148) rfl rfl Tryz.func10 (by kernel_rfl) rfl #[.string (a0.extract (a1 : Int).toNat (x215002_64 : Int).toNat)] rfl (by (try simp only [List.map_toArray, List.map_cons, List.map_nil]); rfl) ?_; (with_reducible refine (orielref04_Kind.calls kj64 (a0.extract (a1 : Int).toNat (x215002_64 : Int).toNat) t223 _ A89.out).mono ?_); rintro e w93 ⟨rfl, hb⟩; refine ⟨_, rfl, ?_⟩; have n0_ := Aside0.mk (blk_below (g := gb213) (o := .cells #[.int .i64 0, .int .i64 0, .int .i64 0] 51 (0, 0)) (by (with_reducible repeat (fail)); exact BK213.out) hb); have n1_ := Aside0.mk (blk_below (g := gb214) (o := .cells #[.int .i64 3, .int .i64 a1, .int .i64 x215002_64] 51 (0, 0)) (by (with_reducible repeat (fail)); exact BK214.out) hb); have n2_ := Aside0.mk (below_step (by repeat (with_reducible exact HB.out)) hb); clear BK213; clear BK214; clear HB; have BK213 := n0_; have BK214 := n1_; have HB := n2_; clear n0_ n1_ n2_; (try clear hb); (try clear hb2); (try clear hk); (try clear hi); have hcz94_0 : w93.cell? ⟨gb214, 0, none⟩ = some (.int .i64 3) := (blk_cell BK214.out 0).trans rfl; have hcz94_1 : w93.cell? ⟨gb214, 1, none⟩ = some (.int .i64 a1) := (blk_cell BK214.out 1).trans rfl; have hcz94_2 : w93.cell? ⟨gb214, 2, none⟩ = some (.int .i64 x215002_64) := (blk_cell BK214.out 2).trans rfl; have hfz94_0 := blk_frozen BK214.out 0; have hfz94_1 := blk_frozen BK214.out 1; have hfz94_2 := blk_frozen BK214.out 2; have hcz95_0 : w93.cell? ⟨gb213, 0, none⟩ = some (.int .i64 0) := (blk_cell BK213.out 0).trans rfl; have hcz95_1 : w93.cell? ⟨gb213, 1, none⟩ = some (.int .i64 0) := (blk_cell BK213.out 1).trans rfl; have hcz95_2 : w93.cell? ⟨gb213, 2, none⟩ = some (.int .i64 0) := (blk_cell BK213.out 2).trans rfl; have hfz95_0 := blk_frozen BK213.out 0; have hfz95_1 := blk_frozen BK213.out 1; have hfz95_2 := blk_frozen BK213.out 2))
                refine bodyPost_ret (results_cell_row rfl _ _ gb213 51 #[.int .i64 3, .int .i64 a1, .int .i64 x215002_64] (0, 0) _ rfl (by (with_reducible repeat (fail)); refine blk_put (cs := #[.int .i64 3, .int .i64 a1, .int .i64 0]) ?_ 2 _ rfl; (with_reducible repeat (fail)); refine blk_put (cs := #[.int .i64 3, .int .i64 0, .int .i64 0]) ?_ 1 _ rfl; (with_reducible repeat (fail)); refine blk_put (cs := #[.int .i64 0, .int .i64 0, .int .i64 0]) ?_ 0 _ rfl; (with_reducible repeat (fail)); exact BK213.out) Tryz.underlying51 rfl (by kernel_rfl)) rfl ?_
                exact ⟨by rfl, by repeat ((with_reducible first | exact HB.out | refine below_set ?_ GE213.out ))⟩
               ·rw [if_neg c90] at H
                have c90b0 : (t223 == 0) = false := beq_eq_false_iff_ne.mpr c90
                have c90b1 : (t223 != 0) = true := bne_iff_ne.mpr c90
                simp only [Option.some.injEq, Prod.mk.injEq] at H
                obtain ⟨rfl, rfl, rfl⟩ := H
                have hnb96 := NB214_213.out
                have hnc96 := NB213_214.out
                have hcz97_0 : wc.cell? ⟨gb214, 0, none⟩ = some (.int .i64 3) := (blk_cell BK214.out 0).trans rfl
                have hcz97_1 : wc.cell? ⟨gb214, 1, none⟩ = some (.int .i64 a1) := (blk_cell BK214.out 1).trans rfl
                have hcz97_2 : wc.cell? ⟨gb214, 2, none⟩ = some (.int .i64 x215002_64) := (blk_cell BK214.out 2).trans rfl
                have hfz97_0 := blk_frozen BK214.out 0
                have hfz97_1 := blk_frozen BK214.out 1
                have hfz97_2 := blk_frozen BK214.out 2
                go_wp2_with (((with_reducible refine gate_callee (f := 10) rfl ?_); refine goesL_ (some 148) rfl rfl Tryz.func10 (by kernel_rfl) rfl #[.string (a0.extract (a1 : Int).toNat (x215002_64 : Int).toNat)] rfl (by (try simp only [List.map_toArray, List.map_cons, List.map_nil]); rfl) ?_; (with_reducible refine (orielref04_Kind.calls kj64 (a0.extract (a1 : Int).toNat (x215002_64 : Int).toNat) t223 _ A89.out).mono ?_); rintro e w98 ⟨rfl, hb⟩; refine ⟨_, rfl, ?_⟩; have n0_ := Aside0.mk (blk_below (g := gb213) (o := .cells #[.int .i64 0, .int .i64 0, .int .i64 0] 51 (0, 0)) (by (with_reducible repeat (fail)); exact BK213.out) hb); have n1_ := Aside0.mk (blk_below (g := gb214) (o := .cells #[.int .i64 3, .int .i64 a1, .int .i64 x215002_64] 51 (0, 0)) (by (with_reducible repeat (fail)); exact BK214.out) hb); have n2_ := Aside0.mk (below_step (by repeat (with_reducible exact HB.out)) hb); clear BK213; clear BK214; clear HB; have BK213 := n0_; have BK214 := n1_; have HB := n2_; clear n0_ n1_ n2_; (try clear hb); (try clear hb2); (try clear hk); (try clear hi); have hcz99_0 : w98.cell? ⟨gb214, 0, none⟩ = some (.int .i64 3) := (blk_cell BK214.out 0).trans rfl; have hcz99_1 : w98.cell? ⟨gb214, 1, none⟩ = some (.int .i64 a1) := (blk_cell BK214.out 1).trans rfl; have hcz99_2 : w98.cell? ⟨gb214, 2, none⟩ = some (.int .i64 x215002_64) := (blk_cell BK214.out 2).trans rfl; have hfz99_0 := blk_frozen BK214.out 0; have hfz99_1 := blk_frozen BK214.out 1; have hfz99_2 := blk_frozen BK214.out 2; have hcz100_0 : w98.cell? ⟨gb213, 0, none⟩ = some (.int .i64 0) := (blk_cell BK213.out 0).trans rfl; have hcz100_1 : w98.cell? ⟨gb213, 1, none⟩ = some (.int .i64 0) := (blk_cell BK213.out 1).trans rfl; have hcz100_2 : w98.cell? ⟨gb213, 2, none⟩ = some (.int .i64 0) := (blk_cell BK213.out 2).trans rfl; have hfz100_0 := blk_frozen BK213.out 0; have hfz100_1 := blk_frozen BK213.out 1; have hfz100_2 := blk_frozen BK213.out 2))
                refine bodyPost_ret (results_cell_row rfl _ _ gb213 51 #[.int .i64 t223, .int .i64 a1, .int .i64 x215002_64] (0, 0) _ rfl (by (with_reducible repeat (fail)); refine blk_put (cs := #[.int .i64 t223, .int .i64 a1, .int .i64 0]) ?_ 2 _ rfl; (with_reducible repeat (fail)); refine blk_put (cs := #[.int .i64 t223, .int .i64 0, .int .i64 0]) ?_ 1 _ rfl; (with_reducible repeat (fail)); refine blk_put (cs := #[.int .i64 0, .int .i64 0, .int .i64 0]) ?_ 0 _ rfl; (with_reducible repeat (fail)); refine blk_far ?_ NB213_214.out _; (with_reducible repeat (fail)); exact BK213.out) Tryz.underlying51 rfl (by kernel_rfl)) rfl ?_
                exact ⟨by rfl, by repeat ((with_reducible first | exact HB.out | refine below_set ?_ GE213.out | refine below_set ?_ GE214.out))⟩
              ·rw [if_neg c88] at H
               exact absurd H (by simp)
             ·rw [if_neg c87] at H
              exact absurd H (by simp)
            ·rw [if_neg c86] at H
             exact absurd H (by simp)
        ·replace c63 := Bool.eq_false_iff.mpr c63
         subst c63
         have H1 : ((orielref04_Signs.f kj24 (bt a0 a1)).bind fun t224 => (if t224 = true then (orielref05_Next.l3 kj24 a0 a1 3 a1 (wrap64 (a1 + 1))) else (if 0 ≤ a1 then (if a1 ≤ (wrap64 (a1 + 1)) then (if (wrap64 (a1 + 1)) ≤ (a0.size : Int) then ((orielref04_Kind.f kj24 (a0.extract (a1 : Int).toNat ((wrap64 (a1 + 1)) : Int).toNat)).bind fun t228 => (if t228 = 0 then (some (3, a1, (wrap64 (a1 + 1)))) else (some (t228, a1, (wrap64 (a1 + 1)))))) else (none)) else (none)) else (none)))) = some (r1, r2, r3) := by rw [if_neg (show ¬ (false = true) by decide)] at H; exact H
         clear H
         have H := H1
         clear H1
         replace H := Option.bind_eq_some_iff.mp H
         obtain ⟨t224, A1010, H⟩ := H
         replace H : (if t224 = true then (orielref05_Next.l3 kj24 a0 a1 3 a1 (wrap64 (a1 + 1))) else (if 0 ≤ a1 then (if a1 ≤ (wrap64 (a1 + 1)) then (if (wrap64 (a1 + 1)) ≤ (a0.size : Int) then ((orielref04_Kind.f kj24 (a0.extract (a1 : Int).toNat ((wrap64 (a1 + 1)) : Int).toNat)).bind fun t228 => (if t228 = 0 then (some (3, a1, (wrap64 (a1 + 1)))) else (some (t228, a1, (wrap64 (a1 + 1)))))) else (none)) else (none)) else (none))) = some (r1, r2, r3) := H
         have A101 := Aside0.mk A1010
         clear A1010
         by_cases c102 : t224 = true
         ·subst c102
          have H1 : (orielref05_Next.l3 kj24 a0 a1 3 a1 (wrap64 (a1 + 1))) = some (r1, r2, r3) := by rw [if_pos rfl] at H; exact H
          clear H
          have H := H1
          clear H1
          have H' := Aside0.mk H
          clear H
          go_wp2_with (first | ((with_reducible refine gate_callee (f := 25) rfl ?_); refine goesL_ (some 95) rfl rfl Tryz.func25 (by kernel_rfl) rfl #[.int .u8 (bt a0 a1)] rfl (by (try simp only [List.map_toArray, List.map_cons, List.map_nil]); rfl) ?_; (with_reducible refine (orielref04_Rest.calls (bt a0 a1) false _ A62.out).mono ?_); rintro e w' ⟨rfl, ⟨nd, rfl⟩⟩; refine ⟨_, rfl, ?_⟩) | ((with_reducible refine gate_callee (f := 26) rfl ?_); refine goesL_ (some 126) rfl rfl Tryz.func26 (by kernel_rfl) rfl #[.int .u8 (bt a0 a1)] rfl (by (try simp only [List.map_toArray, List.map_cons, List.map_nil]); rfl) ?_; (with_reducible refine (orielref04_Signs.calls kj24 (bt a0 a1) true _ A101.out).mono ?_); rintro e w' ⟨rfl, ⟨nd, rfl⟩⟩; refine ⟨_, rfl, ?_⟩))
          (try go_simp)
          go_loopg [] kj24 (fun kq w' => ∃ (x215002_2 : Int), Aside0 (orielref05_Next.l3 kq a0 a1 3 a1 x215002_2 = some (r1, r2, r3)) ∧ Aside0 (kq ≤ kj24) ∧ Aside0 (w'.heap[gb213]? = some (.cells #[.int .i64 0, .int .i64 0, .int .i64 0] 51 (0, 0))) ∧ Aside0 (w'.heap[gb214]? = some (.cells #[.int .i64 3, .int .i64 a1, .int .i64 x215002_2] 51 (0, 0))) ∧ Aside0 (Below w.heap.size w w'))
          case atStart => exact ⟨((wrap64 (a1 + 1))), H', ⟨Nat.le_refl _⟩, ⟨by (with_reducible repeat (refine blk_drewN ?_ _)); exact BK213.out⟩, ⟨by (with_reducible repeat (refine blk_drewN ?_ _)); exact BK214.out⟩, ⟨by repeat ((with_reducible first | exact HB.out | apply pw_below_drewN ))⟩⟩
          case round =>
           clear H'
           clear c44 c44b0 c44b1
           obtain ⟨x215002_2, HA, HK2, BK213, BK214, HB⟩ := hrel
           cases gk with
           | zero => exact absurd HA.out (by simp [orielref05_Next.l3])
           | succ k2 =>
            have H := HA.out
            clear HA
            simp only [orielref05_Next.l3] at H
            by_cases c103 : x215002_2 < (a0.size : Int)
            ·rw [if_pos c103] at H
             have c103b0 : decide (x215002_2 < (a0.size : Int)) = true := decide_eq_true c103
             clear c103
             by_cases c104 : 0 ≤ x215002_2
             ·rw [if_pos c104] at H
              have c104b0 : decide (0 ≤ x215002_2) = true := decide_eq_true c104
              clear c104
              replace H := Option.bind_eq_some_iff.mp H
              obtain ⟨t225, A1060, H⟩ := H
              replace H : (if t225 = true then (orielref05_Next.l3 k2 a0 a1 3 a1 (wrap64 (x215002_2 + 1))) else (if 0 ≤ a1 then (if a1 ≤ x215002_2 then (if x215002_2 ≤ (a0.size : Int) then ((orielref04_Kind.f k2 (a0.extract (a1 : Int).toNat (x215002_2 : Int).toNat)).bind fun t226 => (if t226 = 0 then (some (3, a1, x215002_2)) else (some (t226, a1, x215002_2)))) else (none)) else (none)) else (none))) = some (r1, r2, r3) := H
              have A106 := Aside0.mk A1060
              clear A1060
              by_cases c107 : t225 = true
              ·subst c107
               have H1 : (orielref05_Next.l3 k2 a0 a1 3 a1 (wrap64 (x215002_2 + 1))) = some (r1, r2, r3) := by rw [if_pos rfl] at H; exact H
               clear H
               have H := H1
               clear H1
               have H' := Aside0.mk H
               clear H
               have hnb108 := NB214_213.out
               have hnc108 := NB213_214.out
               have hcz109_0 : wr.cell? ⟨gb214, 0, none⟩ = some (.int .i64 3) := (blk_cell BK214.out 0).trans rfl
               have hcz109_1 : wr.cell? ⟨gb214, 1, none⟩ = some (.int .i64 a1) := (blk_cell BK214.out 1).trans rfl
               have hcz109_2 : wr.cell? ⟨gb214, 2, none⟩ = some (.int .i64 x215002_2) := (blk_cell BK214.out 2).trans rfl
               have hfz109_0 := blk_frozen BK214.out 0
               have hfz109_1 := blk_frozen BK214.out 1
               have hfz109_2 := blk_frozen BK214.out 2
               have p105 : 0 ≤ (x215002_2 : Int) := of_decide_eq_true (by with_reducible assumption)
               have q105 : x215002_2 < (a0.size : Int) := of_decide_eq_true (by with_reducible assumption)
               have hx105 := bt_at a0 x215002_2
               replace p105 := eq_true p105
               replace q105 := eq_true q105
               go_wp2_with ((go_at_call 26; (with_reducible refine (orielref04_Signs.calls k2 (bt a0 x215002_2) true _ A106.out).mono ?_); rintro e w' ⟨rfl, ⟨nd, rfl⟩⟩; (try (rw [drewN_self wr]; generalize hq_ : World.drewN wr _ = wr; have n0_ : Aside0 (wr.heap[gb213]? = some (.cells #[.int .i64 0, .int .i64 0, .int .i64 0] 51 (0, 0))) := ⟨by rw [← hq_]; exact (by (with_reducible repeat (refine blk_drewN ?_ _)); exact BK213.out)⟩; have n1_ : Aside0 (wr.heap[gb214]? = some (.cells #[.int .i64 3, .int .i64 a1, .int .i64 x215002_2] 51 (0, 0))) := ⟨by rw [← hq_]; exact (by (with_reducible repeat (refine blk_drewN ?_ _)); exact BK214.out)⟩; have n2_ : Aside0 (Below w.heap.size w wr) := ⟨by rw [← hq_]; exact (by repeat ((with_reducible first | exact HB.out | apply pw_below_drewN )))⟩; clear BK213 BK214 HB hq_; have BK213 := n0_; have BK214 := n1_; have HB := n2_; clear n0_ n1_ n2_; have hcy6_gb213_0 : wr.cell? ⟨gb213, 0, none⟩ = some (.int .i64 0) := (blk_cell BK213.out 0).trans rfl; have hfy6_gb213_0 := blk_frozen BK213.out 0; have hcy6_gb213_1 : wr.cell? ⟨gb213, 1, none⟩ = some (.int .i64 0) := (blk_cell BK213.out 1).trans rfl; have hfy6_gb213_1 := blk_frozen BK213.out 1; have hcy6_gb213_2 : wr.cell? ⟨gb213, 2, none⟩ = some (.int .i64 0) := (blk_cell BK213.out 2).trans rfl; have hfy6_gb213_2 := blk_frozen BK213.out 2; have hcy6_gb214_0 : wr.cell? ⟨gb214, 0, none⟩ = some (.int .i64 3) := (blk_cell BK214.out 0).trans rfl; have hfy6_gb214_0 := blk_frozen BK214.out 0; have hcy6_gb214_1 : wr.cell? ⟨gb214, 1, none⟩ = some (.int .i64 a1) := (blk_cell BK214.out 1).trans rfl; have hfy6_gb214_1 := blk_frozen BK214.out 1; have hcy6_gb214_2 : wr.cell? ⟨gb214, 2, none⟩ = some (.int .i64 x215002_2) := (blk_cell BK214.out 2).trans rfl; have hfy6_gb214_2 := blk_frozen BK214.out 2))))
               go_roundg k2
               case measure => have := HJ24.out; have := HK2.out; omega
               case rel => exact ⟨(wrap64 (x215002_2 + 1)), H', ⟨by have := HJ24.out; have := HK2.out; omega⟩, ⟨by (with_reducible repeat (fail)); refine blk_far ?_ NB213_214.out _; (with_reducible repeat (fail)); exact BK213.out⟩, ⟨by (with_reducible repeat (fail)); refine blk_put (cs := #[.int .i64 3, .int .i64 a1, .int .i64 x215002_2]) ?_ 2 _ rfl; (with_reducible repeat (fail)); exact BK214.out⟩, ⟨by repeat ((with_reducible first | exact HB.out | refine below_set ?_ GE214.out))⟩⟩
              ·replace c107 := Bool.eq_false_iff.mpr c107
               subst c107
               have H1 : (if 0 ≤ a1 then (if a1 ≤ x215002_2 then (if x215002_2 ≤ (a0.size : Int) then ((orielref04_Kind.f k2 (a0.extract (a1 : Int).toNat (x215002_2 : Int).toNat)).bind fun t226 => (if t226 = 0 then (some (3, a1, x215002_2)) else (some (t226, a1, x215002_2)))) else (none)) else (none)) else (none)) = some (r1, r2, r3) := by rw [if_neg (show ¬ (false = true) by decide)] at H; exact H
               clear H
               have H := H1
               clear H1
               by_cases c110 : 0 ≤ a1
               ·rw [if_pos c110] at H
                have c110b0 := eq_true c110
                have c110b1 : decide (0 ≤ a1) = true := decide_eq_true c110
                clear c110
                by_cases c111 : a1 ≤ x215002_2
                ·rw [if_pos c111] at H
                 have c111b0 := eq_true c111
                 have c111b1 : decide (a1 ≤ x215002_2) = true := decide_eq_true c111
                 clear c111
                 by_cases c112 : x215002_2 ≤ (a0.size : Int)
                 ·rw [if_pos c112] at H
                  have c112b0 := eq_true c112
                  have c112b1 : decide (x215002_2 ≤ (a0.size : Int)) = true := decide_eq_true c112
                  clear c112
                  replace H := Option.bind_eq_some_iff.mp H
                  obtain ⟨t226, A1130, H⟩ := H
                  replace H : (if t226 = 0 then (some (3, a1, x215002_2)) else (some (t226, a1, x215002_2))) = some (r1, r2, r3) := H
                  have A113 := Aside0.mk A1130
                  clear A1130
                  by_cases c114 : t226 = 0
                  ·rw [if_pos c114] at H
                   have c114b0 : (t226 == 0) = true := beq_iff_eq.mpr c114
                   have c114b1 : (t226 != 0) = false := bne_eq_false_iff_eq.mpr c114
                   clear c114
                   simp only [Option.some.injEq, Prod.mk.injEq] at H
                   obtain ⟨rfl, rfl, rfl⟩ := H
                   have hnb115 := NB214_213.out
                   have hnc115 := NB213_214.out
                   have hcz116_0 : wr.cell? ⟨gb214, 0, none⟩ = some (.int .i64 3) := (blk_cell BK214.out 0).trans rfl
                   have hcz116_1 : wr.cell? ⟨gb214, 1, none⟩ = some (.int .i64 a1) := (blk_cell BK214.out 1).trans rfl
                   have hcz116_2 : wr.cell? ⟨gb214, 2, none⟩ = some (.int .i64 x215002_2) := (blk_cell BK214.out 2).trans rfl
                   have hfz116_0 := blk_frozen BK214.out 0
                   have hfz116_1 := blk_frozen BK214.out 1
                   have hfz116_2 := blk_frozen BK214.out 2
                   have p105 : 0 ≤ (x215002_2 : Int) := of_decide_eq_true (by with_reducible assumption)
                   have q105 : x215002_2 < (a0.size : Int) := of_decide_eq_true (by with_reducible assumption)
                   have hx105 := bt_at a0 x215002_2
                   replace p105 := eq_true p105
                   replace q105 := eq_true q105
                   go_wp2_with (first | (go_at_call 26; (with_reducible refine (orielref04_Signs.calls k2 (bt a0 x215002_2) false _ A106.out).mono ?_); rintro e w' ⟨rfl, ⟨nd, rfl⟩⟩; (try (rw [drewN_self wr]; generalize hq_ : World.drewN wr _ = wr; have n0_ : Aside0 (wr.heap[gb213]? = some (.cells #[.int .i64 0, .int .i64 0, .int .i64 0] 51 (0, 0))) := ⟨by rw [← hq_]; exact (by (with_reducible repeat (refine blk_drewN ?_ _)); exact BK213.out)⟩; have n1_ : Aside0 (wr.heap[gb214]? = some (.cells #[.int .i64 3, .int .i64 a1, .int .i64 x215002_2] 51 (0, 0))) := ⟨by rw [← hq_]; exact (by (with_reducible repeat (refine blk_drewN ?_ _)); exact BK214.out)⟩; have n2_ : Aside0 (Below w.heap.size w wr) := ⟨by rw [← hq_]; exact (by repeat ((with_reducible first | exact HB.out | apply pw_below_drewN )))⟩; clear BK213 BK214 HB hq_; have BK213 := n0_; have BK214 := n1_; have HB := n2_; clear n0_ n1_ n2_; have hcy7_gb213_0 : wr.cell? ⟨gb213, 0, none⟩ = some (.int .i64 0) := (blk_cell BK213.out 0).trans rfl; have hfy7_gb213_0 := blk_frozen BK213.out 0; have hcy7_gb213_1 : wr.cell? ⟨gb213, 1, none⟩ = some (.int .i64 0) := (blk_cell BK213.out 1).trans rfl; have hfy7_gb213_1 := blk_frozen BK213.out 1; have hcy7_gb213_2 : wr.cell? ⟨gb213, 2, none⟩ = some (.int .i64 0) := (blk_cell BK213.out 2).trans rfl; have hfy7_gb213_2 := blk_frozen BK213.out 2; have hcy7_gb214_0 : wr.cell? ⟨gb214, 0, none⟩ = some (.int .i64 3) := (blk_cell BK214.out 0).trans rfl; have hfy7_gb214_0 := blk_frozen BK214.out 0; have hcy7_gb214_1 : wr.cell? ⟨gb214, 1, none⟩ = some (.int .i64 a1) := (blk_cell BK214.out 1).trans rfl; have hfy7_gb214_1 := blk_frozen BK214.out 1; have hcy7_gb214_2 : wr.cell? ⟨gb214, 2, none⟩ = some (.int .i64 x215002_2) := (blk_cell BK214.out 2).trans rfl; have hfy7_gb214_2 := blk_frozen BK214.out 2))) | ((with_reducible refine gate_callee (f := 10) rfl ?_); refine goesL_ (some 148) rfl rfl Tryz.func10 (by kernel_rfl) rfl #[.string (a0.extract (a1 : Int).toNat (x215002_2 : Int).toNat)] rfl (by (try simp only [List.map_toArray, List.map_cons, List.map_nil]); rfl) ?_; (with_reducible refine (orielref04_Kind.calls k2 (a0.extract (a1 : Int).toNat (x215002_2 : Int).toNat) t226 _ A113.out).mono ?_); rintro e w117 ⟨rfl, hb⟩; refine ⟨_, rfl, ?_⟩; have n0_ := Aside0.mk (blk_below (g := gb213) (o := .cells #[.int .i64 0, .int .i64 0, .int .i64 0] 51 (0, 0)) (by (with_reducible repeat (fail)); exact BK213.out) hb); have n1_ := Aside0.mk (blk_below (g := gb214) (o := .cells #[.int .i64 3, .int .i64 a1, .int .i64 x215002_2] 51 (0, 0)) (by (with_reducible repeat (fail)); exact BK214.out) hb); have n2_ := Aside0.mk (below_step (by repeat (with_reducible exact HB.out)) hb); clear BK213; clear BK214; clear HB; have BK213 := n0_; have BK214 := n1_; have HB := n2_; clear n0_ n1_ n2_; (try clear hb); (try clear hb2); (try clear hk); (try clear hi); have hcz118_0 : w117.cell? ⟨gb214, 0, none⟩ = some (.int .i64 3) := (blk_cell BK214.out 0).trans rfl; have hcz118_1 : w117.cell? ⟨gb214, 1, none⟩ = some (.int .i64 a1) := (blk_cell BK214.out 1).trans rfl; have hcz118_2 : w117.cell? ⟨gb214, 2, none⟩ = some (.int .i64 x215002_2) := (blk_cell BK214.out 2).trans rfl; have hfz118_0 := blk_frozen BK214.out 0; have hfz118_1 := blk_frozen BK214.out 1; have hfz118_2 := blk_frozen BK214.out 2; have hcz119_0 : w117.cell? ⟨gb213, 0, none⟩ = some (.int .i64 0) := (blk_cell BK213.out 0).trans rfl; have hcz119_1 : w117.cell? ⟨gb213, 1, none⟩ = some (.int .i64 0) := (blk_cell BK213.out 1).trans rfl; have hcz119_2 : w117.cell? ⟨gb213, 2, none⟩ = some (.int .i64 0) := (blk_cell BK213.out 2).trans rfl; have hfz119_0 := blk_frozen BK213.out 0; have hfz119_1 := blk_frozen BK213.out 1; have hfz119_2 := blk_frozen BK213.out 2))
                   refine bodyPost_ret (results_cell_row rfl _ _ gb213 51 #[.int .i64 3, .int .i64 a1, .int .i64 x215002_2] (0, 0) _ rfl (by (with_reducible repeat (fail)); refine blk_put (cs := #[.int .i64 3, .int .i64 a1, .int .i64 0]) ?_ 2 _ rfl; (with_reducible repeat (fail)); refine blk_put (cs := #[.int .i64 3, .int .i64 0, .int .i64 0]) ?_ 1 _ rfl; (with_reducible repeat (fail)); refine blk_put (cs := #[.int .i64 0, .int .i64 0, .int .i64 0]) ?_ 0 _ rfl; (with_reducible repeat (fail)); exact BK213.out) Tryz.underlying51 rfl (by kernel_rfl)) rfl ?_
                   exact ⟨by rfl, by repeat ((with_reducible first | exact HB.out | refine below_set ?_ GE213.out ))⟩
                  ·rw [if_neg c114] at H
                   have c114b0 : (t226 == 0) = false := beq_eq_false_iff_ne.mpr c114
                   have c114b1 : (t226 != 0) = true := bne_iff_ne.mpr c114
                   simp only [Option.some.injEq, Prod.mk.injEq] at H
                   obtain ⟨rfl, rfl, rfl⟩ := H
                   have hnb120 := NB214_213.out
                   have hnc120 := NB213_214.out
                   have hcz121_0 : wr.cell? ⟨gb214, 0, none⟩ = some (.int .i64 3) := (blk_cell BK214.out 0).trans rfl
                   have hcz121_1 : wr.cell? ⟨gb214, 1, none⟩ = some (.int .i64 a1) := (blk_cell BK214.out 1).trans rfl
                   have hcz121_2 : wr.cell? ⟨gb214, 2, none⟩ = some (.int .i64 x215002_2) := (blk_cell BK214.out 2).trans rfl
                   have hfz121_0 := blk_frozen BK214.out 0
                   have hfz121_1 := blk_frozen BK214.out 1
                   have hfz121_2 := blk_frozen BK214.out 2
                   have p105 : 0 ≤ (x215002_2 : Int) := of_decide_eq_true (by with_reducible assumption)
                   have q105 : x215002_2 < (a0.size : Int) := of_decide_eq_true (by with_reducible assumption)
                   have hx105 := bt_at a0 x215002_2
                   replace p105 := eq_true p105
                   replace q105 := eq_true q105
                   go_wp2_with (first | (go_at_call 26; (with_reducible refine (orielref04_Signs.calls k2 (bt a0 x215002_2) false _ A106.out).mono ?_); rintro e w' ⟨rfl, ⟨nd, rfl⟩⟩; (try (rw [drewN_self wr]; generalize hq_ : World.drewN wr _ = wr; have n0_ : Aside0 (wr.heap[gb213]? = some (.cells #[.int .i64 0, .int .i64 0, .int .i64 0] 51 (0, 0))) := ⟨by rw [← hq_]; exact (by (with_reducible repeat (refine blk_drewN ?_ _)); exact BK213.out)⟩; have n1_ : Aside0 (wr.heap[gb214]? = some (.cells #[.int .i64 3, .int .i64 a1, .int .i64 x215002_2] 51 (0, 0))) := ⟨by rw [← hq_]; exact (by (with_reducible repeat (refine blk_drewN ?_ _)); exact BK214.out)⟩; have n2_ : Aside0 (Below w.heap.size w wr) := ⟨by rw [← hq_]; exact (by repeat ((with_reducible first | exact HB.out | apply pw_below_drewN )))⟩; clear BK213 BK214 HB hq_; have BK213 := n0_; have BK214 := n1_; have HB := n2_; clear n0_ n1_ n2_; have hcy8_gb213_0 : wr.cell? ⟨gb213, 0, none⟩ = some (.int .i64 0) := (blk_cell BK213.out 0).trans rfl; have hfy8_gb213_0 := blk_frozen BK213.out 0; have hcy8_gb213_1 : wr.cell? ⟨gb213, 1, none⟩ = some (.int .i64 0) := (blk_cell BK213.out 1).trans rfl; have hfy8_gb213_1 := blk_frozen BK213.out 1; have hcy8_gb213_2 : wr.cell? ⟨gb213, 2, none⟩ = some (.int .i64 0) := (blk_cell BK213.out 2).trans rfl; have hfy8_gb213_2 := blk_frozen BK213.out 2; have hcy8_gb214_0 : wr.cell? ⟨gb214, 0, none⟩ = some (.int .i64 3) := (blk_cell BK214.out 0).trans rfl; have hfy8_gb214_0 := blk_frozen BK214.out 0; have hcy8_gb214_1 : wr.cell? ⟨gb214, 1, none⟩ = some (.int .i64 a1) := (blk_cell BK214.out 1).trans rfl; have hfy8_gb214_1 := blk_frozen BK214.out 1; have hcy8_gb214_2 : wr.cell? ⟨gb214, 2, none⟩ = some (.int .i64 x215002_2) := (blk_cell BK214.out 2).trans rfl; have hfy8_gb214_2 := blk_frozen BK214.out 2))) | ((with_reducible refine gate_callee (f := 10) rfl ?_); refine goesL_ (some 148) rfl rfl Tryz.func10 (by kernel_rfl) rfl #[.string (a0.extract (a1 : Int).toNat (x215002_2 : Int).toNat)] rfl (by (try simp only [List.map_toArray, List.map_cons, List.map_nil]); rfl) ?_; (with_reducible refine (orielref04_Kind.calls k2 (a0.extract (a1 : Int).toNat (x215002_2 : Int).toNat) t226 _ A113.out).mono ?_); rintro e w122 ⟨rfl, hb⟩; refine ⟨_, rfl, ?_⟩; have n0_ := Aside0.mk (blk_below (g := gb213) (o := .cells #[.int .i64 0, .int .i64 0, .int .i64 0] 51 (0, 0)) (by (with_reducible repeat (fail)); exact BK213.out) hb); have n1_ := Aside0.mk (blk_below (g := gb214) (o := .cells #[.int .i64 3, .int .i64 a1, .int .i64 x215002_2] 51 (0, 0)) (by (with_reducible repeat (fail)); exact BK214.out) hb); have n2_ := Aside0.mk (below_step (by repeat (with_reducible exact HB.out)) hb); clear BK213; clear BK214; clear HB; have BK213 := n0_; have BK214 := n1_; have HB := n2_; clear n0_ n1_ n2_; (try clear hb); (try clear hb2); (try clear hk); (try clear hi); have hcz123_0 : w122.cell? ⟨gb214, 0, none⟩ = some (.int .i64 3) := (blk_cell BK214.out 0).trans rfl; have hcz123_1 : w122.cell? ⟨gb214, 1, none⟩ = some (.int .i64 a1) := (blk_cell BK214.out 1).trans rfl; have hcz123_2 : w122.cell? ⟨gb214, 2, none⟩ = some (.int .i64 x215002_2) := (blk_cell BK214.out 2).trans rfl; have hfz123_0 := blk_frozen BK214.out 0; have hfz123_1 := blk_frozen BK214.out 1; have hfz123_2 := blk_frozen BK214.out 2; have hcz124_0 : w122.cell? ⟨gb213, 0, none⟩ = some (.int .i64 0) := (blk_cell BK213.out 0).trans rfl; have hcz124_1 : w122.cell? ⟨gb213, 1, none⟩ = some (.int .i64 0) := (blk_cell BK213.out 1).trans rfl; have hcz124_2 : w122.cell? ⟨gb213, 2, none⟩ = some (.int .i64 0) := (blk_cell BK213.out 2).trans rfl; have hfz124_0 := blk_frozen BK213.out 0; have hfz124_1 := blk_frozen BK213.out 1; have hfz124_2 := blk_frozen BK213.out 2))
                   refine bodyPost_ret (results_cell_row rfl _ _ gb213 51 #[.int .i64 t226, .int .i64 a1, .int .i64 x215002_2] (0, 0) _ rfl (by (with_reducible repeat (fail)); refine blk_put (cs := #[.int .i64 t226, .int .i64 a1, .int .i64 0]) ?_ 2 _ rfl; (with_reducible repeat (fail)); refine blk_put (cs := #[.int .i64 t226, .int .i64 0, .int .i64 0]) ?_ 1 _ rfl; (with_reducible repeat (fail)); refine blk_put (cs := #[.int .i64 0, .int .i64 0, .int .i64 0]) ?_ 0 _ rfl; (with_reducible repeat (fail)); refine blk_far ?_ NB213_214.out _; (with_reducible repeat (fail)); exact BK213.out) Tryz.underlying51 rfl (by kernel_rfl)) rfl ?_
                   exact ⟨by rfl, by repeat ((with_reducible first | exact HB.out | refine below_set ?_ GE213.out | refine below_set ?_ GE214.out))⟩
                 ·rw [if_neg c112] at H
                  exact absurd H (by simp)
                ·rw [if_neg c111] at H
                 exact absurd H (by simp)
               ·rw [if_neg c110] at H
                exact absurd H (by simp)
             ·rw [if_neg c104] at H
              exact absurd H (by simp)
            ·rw [if_neg c103] at H
             have c103b0 : decide (x215002_2 < (a0.size : Int)) = false := decide_eq_false c103
             clear c103
             by_cases c125 : 0 ≤ a1
             ·rw [if_pos c125] at H
              have c125b0 := eq_true c125
              have c125b1 : decide (0 ≤ a1) = true := decide_eq_true c125
              clear c125
              by_cases c126 : a1 ≤ x215002_2
              ·rw [if_pos c126] at H
               have c126b0 := eq_true c126
               have c126b1 : decide (a1 ≤ x215002_2) = true := decide_eq_true c126
               clear c126
               by_cases c127 : x215002_2 ≤ (a0.size : Int)
               ·rw [if_pos c127] at H
                have c127b0 := eq_true c127
                have c127b1 : decide (x215002_2 ≤ (a0.size : Int)) = true := decide_eq_true c127
                clear c127
                replace H := Option.bind_eq_some_iff.mp H
                obtain ⟨t227, A1280, H⟩ := H
                replace H : (if t227 = 0 then (some (3, a1, x215002_2)) else (some (t227, a1, x215002_2))) = some (r1, r2, r3) := H
                have A128 := Aside0.mk A1280
                clear A1280
                by_cases c129 : t227 = 0
                ·rw [if_pos c129] at H
                 have c129b0 : (t227 == 0) = true := beq_iff_eq.mpr c129
                 have c129b1 : (t227 != 0) = false := bne_eq_false_iff_eq.mpr c129
                 clear c129
                 simp only [Option.some.injEq, Prod.mk.injEq] at H
                 obtain ⟨rfl, rfl, rfl⟩ := H
                 have hnb130 := NB214_213.out
                 have hnc130 := NB213_214.out
                 have hcz131_0 : wr.cell? ⟨gb214, 0, none⟩ = some (.int .i64 3) := (blk_cell BK214.out 0).trans rfl
                 have hcz131_1 : wr.cell? ⟨gb214, 1, none⟩ = some (.int .i64 a1) := (blk_cell BK214.out 1).trans rfl
                 have hcz131_2 : wr.cell? ⟨gb214, 2, none⟩ = some (.int .i64 x215002_2) := (blk_cell BK214.out 2).trans rfl
                 have hfz131_0 := blk_frozen BK214.out 0
                 have hfz131_1 := blk_frozen BK214.out 1
                 have hfz131_2 := blk_frozen BK214.out 2
                 go_wp2_with (((with_reducible refine gate_callee (f := 10) rfl ?_); refine goesL_ (some 148) rfl rfl Tryz.func10 (by kernel_rfl) rfl #[.string (a0.extract (a1 : Int).toNat (x215002_2 : Int).toNat)] rfl (by (try simp only [List.map_toArray, List.map_cons, List.map_nil]); rfl) ?_; (with_reducible refine (orielref04_Kind.calls k2 (a0.extract (a1 : Int).toNat (x215002_2 : Int).toNat) t227 _ A128.out).mono ?_); rintro e w132 ⟨rfl, hb⟩; refine ⟨_, rfl, ?_⟩; have n0_ := Aside0.mk (blk_below (g := gb213) (o := .cells #[.int .i64 0, .int .i64 0, .int .i64 0] 51 (0, 0)) (by (with_reducible repeat (fail)); exact BK213.out) hb); have n1_ := Aside0.mk (blk_below (g := gb214) (o := .cells #[.int .i64 3, .int .i64 a1, .int .i64 x215002_2] 51 (0, 0)) (by (with_reducible repeat (fail)); exact BK214.out) hb); have n2_ := Aside0.mk (below_step (by repeat (with_reducible exact HB.out)) hb); clear BK213; clear BK214; clear HB; have BK213 := n0_; have BK214 := n1_; have HB := n2_; clear n0_ n1_ n2_; (try clear hb); (try clear hb2); (try clear hk); (try clear hi); have hcz133_0 : w132.cell? ⟨gb214, 0, none⟩ = some (.int .i64 3) := (blk_cell BK214.out 0).trans rfl; have hcz133_1 : w132.cell? ⟨gb214, 1, none⟩ = some (.int .i64 a1) := (blk_cell BK214.out 1).trans rfl; have hcz133_2 : w132.cell? ⟨gb214, 2, none⟩ = some (.int .i64 x215002_2) := (blk_cell BK214.out 2).trans rfl; have hfz133_0 := blk_frozen BK214.out 0; have hfz133_1 := blk_frozen BK214.out 1; have hfz133_2 := blk_frozen BK214.out 2; have hcz134_0 : w132.cell? ⟨gb213, 0, none⟩ = some (.int .i64 0) := (blk_cell BK213.out 0).trans rfl; have hcz134_1 : w132.cell? ⟨gb213, 1, none⟩ = some (.int .i64 0) := (blk_cell BK213.out 1).trans rfl; have hcz134_2 : w132.cell? ⟨gb213, 2, none⟩ = some (.int .i64 0) := (blk_cell BK213.out 2).trans rfl; have hfz134_0 := blk_frozen BK213.out 0; have hfz134_1 := blk_frozen BK213.out 1; have hfz134_2 := blk_frozen BK213.out 2))
                 refine bodyPost_ret (results_cell_row rfl _ _ gb213 51 #[.int .i64 3, .int .i64 a1, .int .i64 x215002_2] (0, 0) _ rfl (by (with_reducible repeat (fail)); refine blk_put (cs := #[.int .i64 3, .int .i64 a1, .int .i64 0]) ?_ 2 _ rfl; (with_reducible repeat (fail)); refine blk_put (cs := #[.int .i64 3, .int .i64 0, .int .i64 0]) ?_ 1 _ rfl; (with_reducible repeat (fail)); refine blk_put (cs := #[.int .i64 0, .int .i64 0, .int .i64 0]) ?_ 0 _ rfl; (with_reducible repeat (fail)); exact BK213.out) Tryz.underlying51 rfl (by kernel_rfl)) rfl ?_
                 exact ⟨by rfl, by repeat ((with_reducible first | exact HB.out | refine below_set ?_ GE213.out ))⟩
                ·rw [if_neg c129] at H
                 have c129b0 : (t227 == 0) = false := beq_eq_false_iff_ne.mpr c129
                 have c129b1 : (t227 != 0) = true := bne_iff_ne.mpr c129
                 simp only [Option.some.injEq, Prod.mk.injEq] at H
                 obtain ⟨rfl, rfl, rfl⟩ := H
                 have hnb135 := NB214_213.out
                 have hnc135 := NB213_214.out
                 have hcz136_0 : wr.cell? ⟨gb214, 0, none⟩ = some (.int .i64 3) := (blk_cell BK214.out 0).trans rfl
                 have hcz136_1 : wr.cell? ⟨gb214, 1, none⟩ = some (.int .i64 a1) := (blk_cell BK214.out 1).trans rfl
                 have hcz136_2 : wr.cell? ⟨gb214, 2, none⟩ = some (.int .i64 x215002_2) := (blk_cell BK214.out 2).trans rfl
                 have hfz136_0 := blk_frozen BK214.out 0
                 have hfz136_1 := blk_frozen BK214.out 1
                 have hfz136_2 := blk_frozen BK214.out 2
                 go_wp2_with (((with_reducible refine gate_callee (f := 10) rfl ?_); refine goesL_ (some 148) rfl rfl Tryz.func10 (by kernel_rfl) rfl #[.string (a0.extract (a1 : Int).toNat (x215002_2 : Int).toNat)] rfl (by (try simp only [List.map_toArray, List.map_cons, List.map_nil]); rfl) ?_; (with_reducible refine (orielref04_Kind.calls k2 (a0.extract (a1 : Int).toNat (x215002_2 : Int).toNat) t227 _ A128.out).mono ?_); rintro e w137 ⟨rfl, hb⟩; refine ⟨_, rfl, ?_⟩; have n0_ := Aside0.mk (blk_below (g := gb213) (o := .cells #[.int .i64 0, .int .i64 0, .int .i64 0] 51 (0, 0)) (by (with_reducible repeat (fail)); exact BK213.out) hb); have n1_ := Aside0.mk (blk_below (g := gb214) (o := .cells #[.int .i64 3, .int .i64 a1, .int .i64 x215002_2] 51 (0, 0)) (by (with_reducible repeat (fail)); exact BK214.out) hb); have n2_ := Aside0.mk (below_step (by repeat (with_reducible exact HB.out)) hb); clear BK213; clear BK214; clear HB; have BK213 := n0_; have BK214 := n1_; have HB := n2_; clear n0_ n1_ n2_; (try clear hb); (try clear hb2); (try clear hk); (try clear hi); have hcz138_0 : w137.cell? ⟨gb214, 0, none⟩ = some (.int .i64 3) := (blk_cell BK214.out 0).trans rfl; have hcz138_1 : w137.cell? ⟨gb214, 1, none⟩ = some (.int .i64 a1) := (blk_cell BK214.out 1).trans rfl; have hcz138_2 : w137.cell? ⟨gb214, 2, none⟩ = some (.int .i64 x215002_2) := (blk_cell BK214.out 2).trans rfl; have hfz138_0 := blk_frozen BK214.out 0; have hfz138_1 := blk_frozen BK214.out 1; have hfz138_2 := blk_frozen BK214.out 2; have hcz139_0 : w137.cell? ⟨gb213, 0, none⟩ = some (.int .i64 0) := (blk_cell BK213.out 0).trans rfl; have hcz139_1 : w137.cell? ⟨gb213, 1, none⟩ = some (.int .i64 0) := (blk_cell BK213.out 1).trans rfl; have hcz139_2 : w137.cell? ⟨gb213, 2, none⟩ = some (.int .i64 0) := (blk_cell BK213.out 2).trans rfl; have hfz139_0 := blk_frozen BK213.out 0; have hfz139_1 := blk_frozen BK213.out 1; have hfz139_2 := blk_frozen BK213.out 2))
                 refine bodyPost_ret (results_cell_row rfl _ _ gb213 51 #[.int .i64 t227, .int .i64 a1, .int .i64 x215002_2] (0, 0) _ rfl (by (with_reducible repeat (fail)); refine blk_put (cs := #[.int .i64 t227, .int .i64 a1, .int .i64 0]) ?_ 2 _ rfl; (with_reducible repeat (fail)); refine blk_put (cs := #[.int .i64 t227, .int .i64 0, .int .i64 0]) ?_ 1 _ rfl; (with_reducible repeat (fail)); refine blk_put (cs := #[.int .i64 0, .int .i64 0, .int .i64 0]) ?_ 0 _ rfl; (with_reducible repeat (fail)); refine blk_far ?_ NB213_214.out _; (with_reducible repeat (fail)); exact BK213.out) Tryz.underlying51 rfl (by kernel_rfl)) rfl ?_
                 exact ⟨by rfl, by repeat ((with_reducible first | exact HB.out | refine below_set ?_ GE213.out | refine below_set ?_ GE214.out))⟩
               ·rw [if_neg c127] at H
                exact absurd H (by simp)
              ·rw [if_neg c126] at H
               exact absurd H (by simp)
             ·rw [if_neg c125] at H
              exact absurd H (by simp)
         ·replace c102 := Bool.eq_false_iff.mpr c102
          subst c102
          have H1 : (if 0 ≤ a1 then (if a1 ≤ (wrap64 (a1 + 1)) then (if (wrap64 (a1 + 1)) ≤ (a0.size : Int) then ((orielref04_Kind.f kj24 (a0.extract (a1 : Int).toNat ((wrap64 (a1 + 1)) : Int).toNat)).bind fun t228 => (if t228 = 0 then (some (3, a1, (wrap64 (a1 + 1)))) else (some (t228, a1, (wrap64 (a1 + 1)))))) else (none)) else (none)) else (none)) = some (r1, r2, r3) := by rw [if_neg (show ¬ (false = true) by decide)] at H; exact H
          clear H
          have H := H1
          clear H1
          by_cases c140 : 0 ≤ a1
          ·rw [if_pos c140] at H
           have c140b0 := eq_true c140
           have c140b1 : decide (0 ≤ a1) = true := decide_eq_true c140
           clear c140
           by_cases c141 : a1 ≤ (wrap64 (a1 + 1))
           ·rw [if_pos c141] at H
            have c141b0 := eq_true c141
            have c141b1 : decide (a1 ≤ (wrap64 (a1 + 1))) = true := decide_eq_true c141
            by_cases c142 : (wrap64 (a1 + 1)) ≤ (a0.size : Int)
            ·rw [if_pos c142] at H
             have c142b0 := eq_true c142
             have c142b1 : decide ((wrap64 (a1 + 1)) ≤ (a0.size : Int)) = true := decide_eq_true c142
             replace H := Option.bind_eq_some_iff.mp H
             obtain ⟨t228, A1430, H⟩ := H
             replace H : (if t228 = 0 then (some (3, a1, (wrap64 (a1 + 1)))) else (some (t228, a1, (wrap64 (a1 + 1))))) = some (r1, r2, r3) := H
             have A143 := Aside0.mk A1430
             clear A1430
             by_cases c144 : t228 = 0
             ·rw [if_pos c144] at H
              have c144b0 : (t228 == 0) = true := beq_iff_eq.mpr c144
              have c144b1 : (t228 != 0) = false := bne_eq_false_iff_eq.mpr c144
              clear c144
              simp only [Option.some.injEq, Prod.mk.injEq] at H
              obtain ⟨rfl, rfl, rfl⟩ := H
              go_wp2_with (first | ((with_reducible refine gate_callee (f := 25) rfl ?_); refine goesL_ (some 95) rfl rfl Tryz.func25 (by kernel_rfl) rfl #[.int .u8 (bt a0 a1)] rfl (by (try simp only [List.map_toArray, List.map_cons, List.map_nil]); rfl) ?_; (with_reducible refine (orielref04_Rest.calls (bt a0 a1) false _ A62.out).mono ?_); rintro e w' ⟨rfl, ⟨nd, rfl⟩⟩; refine ⟨_, rfl, ?_⟩; (try (rw [drewN_self wc]; generalize hq_ : World.drewN wc _ = wc; have n0_ : Aside0 (wc.heap[gb213]? = some (.cells #[.int .i64 0, .int .i64 0, .int .i64 0] 51 (0, 0))) := ⟨by rw [← hq_]; exact (by (with_reducible repeat (refine blk_drewN ?_ _)); exact BK213.out)⟩; have n1_ : Aside0 (wc.heap[gb214]? = some (.cells #[.int .i64 3, .int .i64 a1, .int .i64 (wrap64 (a1 + 1))] 51 (0, 0))) := ⟨by rw [← hq_]; exact (by (with_reducible repeat (refine blk_drewN ?_ _)); exact BK214.out)⟩; have n2_ : Aside0 (Below w.heap.size w wc) := ⟨by rw [← hq_]; exact (by repeat ((with_reducible first | exact HB.out | apply pw_below_drewN )))⟩; clear BK213 BK214 HB hq_; have BK213 := n0_; have BK214 := n1_; have HB := n2_; clear n0_ n1_ n2_; have hcy9_gb213_0 : wc.cell? ⟨gb213, 0, none⟩ = some (.int .i64 0) := (blk_cell BK213.out 0).trans rfl; have hfy9_gb213_0 := blk_frozen BK213.out 0; have hcy9_gb213_1 : wc.cell? ⟨gb213, 1, none⟩ = some (.int .i64 0) := (blk_cell BK213.out 1).trans rfl; have hfy9_gb213_1 := blk_frozen BK213.out 1; have hcy9_gb213_2 : wc.cell? ⟨gb213, 2, none⟩ = some (.int .i64 0) := (blk_cell BK213.out 2).trans rfl; have hfy9_gb213_2 := blk_frozen BK213.out 2; have hcy9_gb214_0 : wc.cell? ⟨gb214, 0, none⟩ = some (.int .i64 3) := (blk_cell BK214.out 0).trans rfl; have hfy9_gb214_0 := blk_frozen BK214.out 0; have hcy9_gb214_1 : wc.cell? ⟨gb214, 1, none⟩ = some (.int .i64 a1) := (blk_cell BK214.out 1).trans rfl; have hfy9_gb214_1 := blk_frozen BK214.out 1; have hcy9_gb214_2 : wc.cell? ⟨gb214, 2, none⟩ = some (.int .i64 (wrap64 (a1 + 1))) := (blk_cell BK214.out 2).trans rfl; have hfy9_gb214_2 := blk_frozen BK214.out 2))) | ((with_reducible refine gate_callee (f := 26) rfl ?_); refine goesL_ (some 126) rfl rfl Tryz.func26 (by kernel_rfl) rfl #[.int .u8 (bt a0 a1)] rfl (by (try simp only [List.map_toArray, List.map_cons, List.map_nil]); rfl) ?_; (with_reducible refine (orielref04_Signs.calls kj24 (bt a0 a1) false _ A101.out).mono ?_); rintro e w' ⟨rfl, ⟨nd, rfl⟩⟩; refine ⟨_, rfl, ?_⟩; (try (rw [drewN_self wc]; generalize hq_ : World.drewN wc _ = wc; have n0_ : Aside0 (wc.heap[gb213]? = some (.cells #[.int .i64 0, .int .i64 0, .int .i64 0] 51 (0, 0))) := ⟨by rw [← hq_]; exact (by (with_reducible repeat (refine blk_drewN ?_ _)); exact BK213.out)⟩; have n1_ : Aside0 (wc.heap[gb214]? = some (.cells #[.int .i64 3, .int .i64 a1, .int .i64 (wrap64 (a1 + 1))] 51 (0, 0))) := ⟨by rw [← hq_]; exact (by (with_reducible repeat (refine blk_drewN ?_ _)); exact BK214.out)⟩; have n2_ : Aside0 (Below w.heap.size w wc) := ⟨by rw [← hq_]; exact (by repeat ((with_reducible first | exact HB.out | apply pw_below_drewN )))⟩; clear BK213 BK214 HB hq_; have BK213 := n0_; have BK214 := n1_; have HB := n2_; clear n0_ n1_ n2_; have hcy10_gb213_0 : wc.cell? ⟨gb213, 0, none⟩ = some (.int .i64 0) := (blk_cell BK213.out 0).trans rfl; have hfy10_gb213_0 := blk_frozen BK213.out 0; have hcy10_gb213_1 : wc.cell? ⟨gb213, 1, none⟩ = some (.int .i64 0) := (blk_cell BK213.out 1).trans rfl; have hfy10_gb213_1 := blk_frozen BK213.out 1; have hcy10_gb213_2 : wc.cell? ⟨gb213, 2, none⟩ = some (.int .i64 0) := (blk_cell BK213.out 2).trans rfl; have hfy10_gb213_2 := blk_frozen BK213.out 2; have hcy10_gb214_0 : wc.cell? ⟨gb214, 0, none⟩ = some (.int .i64 3) := (blk_cell BK214.out 0).trans rfl; have hfy10_gb214_0 := blk_frozen BK214.out 0; have hcy10_gb214_1 : wc.cell? ⟨gb214, 1, none⟩ = some (.int .i64 a1) := (blk_cell BK214.out 1).trans rfl; have hfy10_gb214_1 := blk_frozen BK214.out 1; have hcy10_gb214_2 : wc.cell? ⟨gb214, 2, none⟩ = some (.int .i64 (wrap64 (a1 + 1))) := (blk_cell BK214.out 2).trans rfl; have hfy10_gb214_2 := blk_frozen BK214.out 2)); have hnb145 := NB214_213.out; have hnc145 := NB213_214.out; have hcz146_0 : wc.cell? ⟨gb214, 0, none⟩ = some (.int .i64 3) := (blk_cell BK214.out 0).trans rfl; have hcz146_1 : wc.cell? ⟨gb214, 1, none⟩ = some (.int .i64 a1) := (blk_cell BK214.out 1).trans rfl; have hcz146_2 : wc.cell? ⟨gb214, 2, none⟩ = some (.int .i64 (wrap64 (a1 + 1))) := (blk_cell BK214.out 2).trans rfl; have hfz146_0 := blk_frozen BK214.out 0; have hfz146_1 := blk_frozen BK214.out 1; have hfz146_2 := blk_frozen BK214.out 2) | ((with_reducible refine gate_callee (f := 10) rfl ?_); refine goesL_ (some 148) rfl rfl Tryz.func10 (by kernel_rfl) rfl #[.string (a0.extract (a1 : Int).toNat ((wrap64 (a1 + 1)) : Int).toNat)] rfl (by (try simp only [List.map_toArray, List.map_cons, List.map_nil]); rfl) ?_; (with_reducible refine (orielref04_Kind.calls kj24 (a0.extract (a1 : Int).toNat ((wrap64 (a1 + 1)) : Int).toNat) t228 _ A143.out).mono ?_); rintro e w147 ⟨rfl, hb⟩; refine ⟨_, rfl, ?_⟩; have n0_ := Aside0.mk (blk_below (g := gb213) (o := .cells #[.int .i64 0, .int .i64 0, .int .i64 0] 51 (0, 0)) (by (with_reducible repeat (fail)); exact BK213.out) hb); have n1_ := Aside0.mk (blk_below (g := gb214) (o := .cells #[.int .i64 3, .int .i64 a1, .int .i64 (wrap64 (a1 + 1))] 51 (0, 0)) (by (with_reducible repeat (fail)); exact BK214.out) hb); have n2_ := Aside0.mk (below_step (by repeat (with_reducible exact HB.out)) hb); clear BK213; clear BK214; clear HB; have BK213 := n0_; have BK214 := n1_; have HB := n2_; clear n0_ n1_ n2_; (try clear hb); (try clear hb2); (try clear hk); (try clear hi); have hcz148_0 : w147.cell? ⟨gb214, 0, none⟩ = some (.int .i64 3) := (blk_cell BK214.out 0).trans rfl; have hcz148_1 : w147.cell? ⟨gb214, 1, none⟩ = some (.int .i64 a1) := (blk_cell BK214.out 1).trans rfl; have hcz148_2 : w147.cell? ⟨gb214, 2, none⟩ = some (.int .i64 (wrap64 (a1 + 1))) := (blk_cell BK214.out 2).trans rfl; have hfz148_0 := blk_frozen BK214.out 0; have hfz148_1 := blk_frozen BK214.out 1; have hfz148_2 := blk_frozen BK214.out 2; have hcz149_0 : w147.cell? ⟨gb213, 0, none⟩ = some (.int .i64 0) := (blk_cell BK213.out 0).trans rfl; have hcz149_1 : w147.cell? ⟨gb213, 1, none⟩ = some (.int .i64 0) := (blk_cell BK213.out 1).trans rfl; have hcz149_2 : w147.cell? ⟨gb213, 2, none⟩ = some (.int .i64 0) := (blk_cell BK213.out 2).trans rfl; have hfz149_0 := blk_frozen BK213.out 0; have hfz149_1 := blk_frozen BK213.out 1; have hfz149_2 := blk_frozen BK213.out 2))
              refine bodyPost_ret (results_cell_row rfl _ _ gb213 51 #[.int .i64 3, .int .i64 a1, .int .i64 (wrap64 (a1 + 1))] (0, 0) _ rfl (by (with_reducible repeat (fail)); refine blk_put (cs := #[.int .i64 3, .int .i64 a1, .int .i64 0]) ?_ 2 _ rfl; (with_reducible repeat (fail)); refine blk_put (cs := #[.int .i64 3, .int .i64 0, .int .i64 0]) ?_ 1 _ rfl; (with_reducible repeat (fail)); refine blk_put (cs := #[.int .i64 0, .int .i64 0, .int .i64 0]) ?_ 0 _ rfl; (with_reducible repeat (fail)); exact BK213.out) Tryz.underlying51 rfl (by kernel_rfl)) rfl ?_
              exact ⟨by rfl, by repeat ((with_reducible first | exact HB.out | refine below_set ?_ GE213.out ))⟩
             ·rw [if_neg c144] at H
              have c144b0 : (t228 == 0) = false := beq_eq_false_iff_ne.mpr c144
              have c144b1 : (t228 != 0) = true := bne_iff_ne.mpr c144
              simp only [Option.some.injEq, Prod.mk.injEq] at H
              obtain ⟨rfl, rfl, rfl⟩ := H
              go_wp2_with (first | ((with_reducible refine gate_callee (f := 25) rfl ?_); refine goesL_ (some 95) rfl rfl Tryz.func25 (by kernel_rfl) rfl #[.int .u8 (bt a0 a1)] rfl (by (try simp only [List.map_toArray, List.map_cons, List.map_nil]); rfl) ?_; (with_reducible refine (orielref04_Rest.calls (bt a0 a1) false _ A62.out).mono ?_); rintro e w' ⟨rfl, ⟨nd, rfl⟩⟩; refine ⟨_, rfl, ?_⟩; (try (rw [drewN_self wc]; generalize hq_ : World.drewN wc _ = wc; have n0_ : Aside0 (wc.heap[gb213]? = some (.cells #[.int .i64 0, .int .i64 0, .int .i64 0] 51 (0, 0))) := ⟨by rw [← hq_]; exact (by (with_reducible repeat (refine blk_drewN ?_ _)); exact BK213.out)⟩; have n1_ : Aside0 (wc.heap[gb214]? = some (.cells #[.int .i64 3, .int .i64 a1, .int .i64 (wrap64 (a1 + 1))] 51 (0, 0))) := ⟨by rw [← hq_]; exact (by (with_reducible repeat (refine blk_drewN ?_ _)); exact BK214.out)⟩; have n2_ : Aside0 (Below w.heap.size w wc) := ⟨by rw [← hq_]; exact (by repeat ((with_reducible first | exact HB.out | apply pw_below_drewN )))⟩; clear BK213 BK214 HB hq_; have BK213 := n0_; have BK214 := n1_; have HB := n2_; clear n0_ n1_ n2_; have hcy11_gb213_0 : wc.cell? ⟨gb213, 0, none⟩ = some (.int .i64 0) := (blk_cell BK213.out 0).trans rfl; have hfy11_gb213_0 := blk_frozen BK213.out 0; have hcy11_gb213_1 : wc.cell? ⟨gb213, 1, none⟩ = some (.int .i64 0) := (blk_cell BK213.out 1).trans rfl; have hfy11_gb213_1 := blk_frozen BK213.out 1; have hcy11_gb213_2 : wc.cell? ⟨gb213, 2, none⟩ = some (.int .i64 0) := (blk_cell BK213.out 2).trans rfl; have hfy11_gb213_2 := blk_frozen BK213.out 2; have hcy11_gb214_0 : wc.cell? ⟨gb214, 0, none⟩ = some (.int .i64 3) := (blk_cell BK214.out 0).trans rfl; have hfy11_gb214_0 := blk_frozen BK214.out 0; have hcy11_gb214_1 : wc.cell? ⟨gb214, 1, none⟩ = some (.int .i64 a1) := (blk_cell BK214.out 1).trans rfl; have hfy11_gb214_1 := blk_frozen BK214.out 1; have hcy11_gb214_2 : wc.cell? ⟨gb214, 2, none⟩ = some (.int .i64 (wrap64 (a1 + 1))) := (blk_cell BK214.out 2).trans rfl; have hfy11_gb214_2 := blk_frozen BK214.out 2))) | ((with_reducible refine gate_callee (f := 26) rfl ?_); refine goesL_ (some 126) rfl rfl Tryz.func26 (by kernel_rfl) rfl #[.int .u8 (bt a0 a1)] rfl (by (try simp only [List.map_toArray, List.map_cons, List.map_nil]); rfl) ?_; (with_reducible refine (orielref04_Signs.calls kj24 (bt a0 a1) false _ A101.out).mono ?_); rintro e w' ⟨rfl, ⟨nd, rfl⟩⟩; refine ⟨_, rfl, ?_⟩; (try (rw [drewN_self wc]; generalize hq_ : World.drewN wc _ = wc; have n0_ : Aside0 (wc.heap[gb213]? = some (.cells #[.int .i64 0, .int .i64 0, .int .i64 0] 51 (0, 0))) := ⟨by rw [← hq_]; exact (by (with_reducible repeat (refine blk_drewN ?_ _)); exact BK213.out)⟩; have n1_ : Aside0 (wc.heap[gb214]? = some (.cells #[.int .i64 3, .int .i64 a1, .int .i64 (wrap64 (a1 + 1))] 51 (0, 0))) := ⟨by rw [← hq_]; exact (by (with_reducible repeat (refine blk_drewN ?_ _)); exact BK214.out)⟩; have n2_ : Aside0 (Below w.heap.size w wc) := ⟨by rw [← hq_]; exact (by repeat ((with_reducible first | exact HB.out | apply pw_below_drewN )))⟩; clear BK213 BK214 HB hq_; have BK213 := n0_; have BK214 := n1_; have HB := n2_; clear n0_ n1_ n2_; have hcy12_gb213_0 : wc.cell? ⟨gb213, 0, none⟩ = some (.int .i64 0) := (blk_cell BK213.out 0).trans rfl; have hfy12_gb213_0 := blk_frozen BK213.out 0; have hcy12_gb213_1 : wc.cell? ⟨gb213, 1, none⟩ = some (.int .i64 0) := (blk_cell BK213.out 1).trans rfl; have hfy12_gb213_1 := blk_frozen BK213.out 1; have hcy12_gb213_2 : wc.cell? ⟨gb213, 2, none⟩ = some (.int .i64 0) := (blk_cell BK213.out 2).trans rfl; have hfy12_gb213_2 := blk_frozen BK213.out 2; have hcy12_gb214_0 : wc.cell? ⟨gb214, 0, none⟩ = some (.int .i64 3) := (blk_cell BK214.out 0).trans rfl; have hfy12_gb214_0 := blk_frozen BK214.out 0; have hcy12_gb214_1 : wc.cell? ⟨gb214, 1, none⟩ = some (.int .i64 a1) := (blk_cell BK214.out 1).trans rfl; have hfy12_gb214_1 := blk_frozen BK214.out 1; have hcy12_gb214_2 : wc.cell? ⟨gb214, 2, none⟩ = some (.int .i64 (wrap64 (a1 + 1))) := (blk_cell BK214.out 2).trans rfl; have hfy12_gb214_2 := blk_frozen BK214.out 2)); have hnb150 := NB214_213.out; have hnc150 := NB213_214.out; have hcz151_0 : wc.cell? ⟨gb214, 0, none⟩ = some (.int .i64 3) := (blk_cell BK214.out 0).trans rfl; have hcz151_1 : wc.cell? ⟨gb214, 1, none⟩ = some (.int .i64 a1) := (blk_cell BK214.out 1).trans rfl; have hcz151_2 : wc.cell? ⟨gb214, 2, none⟩ = some (.int .i64 (wrap64 (a1 + 1))) := (blk_cell BK214.out 2).trans rfl; have hfz151_0 := blk_frozen BK214.out 0; have hfz151_1 := blk_frozen BK214.out 1; have hfz151_2 := blk_frozen BK214.out 2) | ((with_reducible refine gate_callee (f := 10) rfl ?_); refine goesL_ (some 148) rfl rfl Tryz.func10 (by kernel_rfl) rfl #[.string (a0.extract (a1 : Int).toNat ((wrap64 (a1 + 1)) : Int).toNat)] rfl (by (try simp only [List.map_toArray, List.map_cons, List.map_nil]); rfl) ?_; (with_reducible refine (orielref04_Kind.calls kj24 (a0.extract (a1 : Int).toNat ((wrap64 (a1 + 1)) : Int).toNat) t228 _ A143.out).mono ?_); rintro e w152 ⟨rfl, hb⟩; refine ⟨_, rfl, ?_⟩; have n0_ := Aside0.mk (blk_below (g := gb213) (o := .cells #[.int .i64 0, .int .i64 0, .int .i64 0] 51 (0, 0)) (by (with_reducible repeat (fail)); exact BK213.out) hb); have n1_ := Aside0.mk (blk_below (g := gb214) (o := .cells #[.int .i64 3, .int .i64 a1, .int .i64 (wrap64 (a1 + 1))] 51 (0, 0)) (by (with_reducible repeat (fail)); exact BK214.out) hb); have n2_ := Aside0.mk (below_step (by repeat (with_reducible exact HB.out)) hb); clear BK213; clear BK214; clear HB; have BK213 := n0_; have BK214 := n1_; have HB := n2_; clear n0_ n1_ n2_; (try clear hb); (try clear hb2); (try clear hk); (try clear hi); have hcz153_0 : w152.cell? ⟨gb214, 0, none⟩ = some (.int .i64 3) := (blk_cell BK214.out 0).trans rfl; have hcz153_1 : w152.cell? ⟨gb214, 1, none⟩ = some (.int .i64 a1) := (blk_cell BK214.out 1).trans rfl; have hcz153_2 : w152.cell? ⟨gb214, 2, none⟩ = some (.int .i64 (wrap64 (a1 + 1))) := (blk_cell BK214.out 2).trans rfl; have hfz153_0 := blk_frozen BK214.out 0; have hfz153_1 := blk_frozen BK214.out 1; have hfz153_2 := blk_frozen BK214.out 2; have hcz154_0 : w152.cell? ⟨gb213, 0, none⟩ = some (.int .i64 0) := (blk_cell BK213.out 0).trans rfl; have hcz154_1 : w152.cell? ⟨gb213, 1, none⟩ = some (.int .i64 0) := (blk_cell BK213.out 1).trans rfl; have hcz154_2 : w152.cell? ⟨gb213, 2, none⟩ = some (.int .i64 0) := (blk_cell BK213.out 2).trans rfl; have hfz154_0 := blk_frozen BK213.out 0; have hfz154_1 := blk_frozen BK213.out 1; have hfz154_2 := blk_frozen BK213.out 2))
              refine bodyPost_ret (results_cell_row rfl _ _ gb213 51 #[.int .i64 t228, .int .i64 a1, .int .i64 (wrap64 (a1 + 1))] (0, 0) _ rfl (by (with_reducible repeat (fail)); refine blk_put (cs := #[.int .i64 t228, .int .i64 a1, .int .i64 0]) ?_ 2 _ rfl; (with_reducible repeat (fail)); refine blk_put (cs := #[.int .i64 t228, .int .i64 0, .int .i64 0]) ?_ 1 _ rfl; (with_reducible repeat (fail)); refine blk_put (cs := #[.int .i64 0, .int .i64 0, .int .i64 0]) ?_ 0 _ rfl; (with_reducible repeat (fail)); refine blk_far ?_ NB213_214.out _; (with_reducible repeat (fail)); exact BK213.out) Tryz.underlying51 rfl (by kernel_rfl)) rfl ?_
              exact ⟨by rfl, by repeat ((with_reducible first | exact HB.out | refine below_set ?_ GE213.out | refine below_set ?_ GE214.out))⟩
            ·rw [if_neg c142] at H
             exact absurd H (by simp)
           ·rw [if_neg c141] at H
            exact absurd H (by simp)
          ·rw [if_neg c140] at H
           exact absurd H (by simp)
  ·rw [if_neg c4] at H
   exact absurd H (by simp)
 ·rw [if_neg c3] at H
  exact absurd H (by simp)

end Go.Proofs.YtfccifekaokibaaGreatDoor.QT

