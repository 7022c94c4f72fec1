-- Laid by this claim's own program (mprint.py in the repo).
import Derived.Test.YthgjieigpfcekaaQGx0
import Derived.Test.YthgjieigpfcekaaQGx2
import Derived.Test.YthgjieigpfcekaaQGx3
import Derived.Test.YthgjieigpfcekaaQGx4
import Derived.Test.YthgjieigpfcekaaQGx6
import Derived.Test.YthgjieigpfcekaaQGx7
namespace Go.Proofs.Ythgjieigpfcekaa.QG
open Go.RowKit Go.Proofs.YthgjieigpfcekaaW.PrintWords Go.Proofs.YthgjieigpfcekaaW.PrintLast Go.Proofs.YthgjieigpfcekaaW.PrintMore
attribute [local go_sem] max2_int min2_int max_two min_two max_three min_three max_four min_four   -- for this text's walks alone
set_option linter.unusedVariables false
set_option linter.unusedSimpArgs false

/-! ### graph_Carries: function 35 -/
mutual
def graph_Carries.j0 : Nat → List Int → Bool → List Int → List (S34) → List Int → Option (Bool)
  | 0, _, _, _, _, _ => none
  | k + 1, x7, x35, x129000, x129001, x129002 => if x35 = true then (some false) else (graph_Carries.l0 k x7 (x7.length : Int) 0 x129000 x129001 x129002)
def graph_Carries.l0 : Nat → List Int → Int → Int → List Int → List (S34) → List Int → Option (Bool)
  | 0, _, _, _, _, _, _ => none
  | k + 1, x36, x37, x38, x129000, x129001, x129002 => if x38 < x37 then (if 0 ≤ x38 then (if x38 < (x36.length : Int) then (if (rd x36 x38) = (-1) then (graph_Carries.l0 k x36 x37 (wrap64 (x38 + 1)) x129000 x129001 x129002) else (if x38 < (x129000.length : Int) then (if (rd x129000 x38) = (rd x36 x38) then (graph_Carries.l0 k x36 x37 (wrap64 (x38 + 1)) x129000 x129001 x129002) else (some false)) else (none))) else (none)) else (none)) else (some true)
end
def graph_Carries.f (k : Nat) (l0_0 : List Int) (l0_1 : List (S34)) (l0_2 : List Int) (l1_0 : List Int) (l1_1 : List (S34)) (l1_2 : List Int) (l2 : List Int) : Option (Bool) := (graph_Carry.f k l0_0 l0_1 l0_2 l2).bind fun bt129 => (if bt129.2.2 = true then (if (bt129.1.length : Int) > (l1_0.length : Int) then (graph_Carries.j0 k bt129.1 true l1_0 l1_1 l1_2) else ((api_Pair_63.f k bt129.2.1 l1_1).bind fun t136 => (graph_Carries.j0 k bt129.1 (!t136) l1_0 l1_1 l1_2))) else (graph_Carries.j0 k bt129.1 true l1_0 l1_1 l1_2))
theorem graph_Carries.mono_l : ∀ k, (∀ y0 y1 y2 y3 y4, LeO (graph_Carries.j0 k y0 y1 y2 y3 y4) (graph_Carries.j0 (k + 1) y0 y1 y2 y3 y4)) ∧ (∀ y0 y1 y2 y3 y4 y5, LeO (graph_Carries.l0 k y0 y1 y2 y3 y4 y5) (graph_Carries.l0 (k + 1) y0 y1 y2 y3 y4 y5))
  | 0 => ⟨fun _ _ _ _ _ r h => by simp [graph_Carries.j0] at h, fun _ _ _ _ _ _ r h => by simp [graph_Carries.l0] at h⟩
  | k + 1 => by
    obtain ⟨ih0, ih1⟩ := graph_Carries.mono_l k
    refine ⟨?_, ?_⟩
    · intro y0 y1 y2 y3 y4
      unfold graph_Carries.j0
      repeat' first
      | (with_reducible exact ih0 _ _ _ _ _)
      | (with_reducible exact ih1 _ _ _ _ _ _)
      | (with_reducible exact api_Pair_63.mono _ _ _)
      | (with_reducible exact graph_Carry.mono _ _ _ _ _)
      | (with_reducible exact LeO.refl _)
      | (with_reducible exact LeO.none _)
      | (with_reducible refine LeO.ite ?_ ?_)
      | (with_reducible refine LeO.bind ?_ (fun _ => ?_))
      | exact ih0 _ _ _ _ _
      | exact ih1 _ _ _ _ _ _
      | exact api_Pair_63.mono _ _ _
      | exact graph_Carry.mono _ _ _ _ _
      | exact LeO.none _
      | refine LeO.ite ?_ ?_
      | refine LeO.bind ?_ (fun _ => ?_)
    · intro y0 y1 y2 y3 y4 y5
      unfold graph_Carries.l0
      repeat' first
      | (with_reducible exact ih0 _ _ _ _ _)
      | (with_reducible exact ih1 _ _ _ _ _ _)
      | (with_reducible exact api_Pair_63.mono _ _ _)
      | (with_reducible exact graph_Carry.mono _ _ _ _ _)
      | (with_reducible exact LeO.refl _)
      | (with_reducible exact LeO.none _)
      | (with_reducible refine LeO.ite ?_ ?_)
      | (with_reducible refine LeO.bind ?_ (fun _ => ?_))
      | exact ih0 _ _ _ _ _
      | exact ih1 _ _ _ _ _ _
      | exact api_Pair_63.mono _ _ _
      | exact graph_Carry.mono _ _ _ _ _
      | exact LeO.none _
      | refine LeO.ite ?_ ?_
      | refine LeO.bind ?_ (fun _ => ?_)
theorem graph_Carries.mono : ∀ a0 a1 a2 a3 a4 a5 a6 k, LeO (graph_Carries.f k a0 a1 a2 a3 a4 a5 a6) (graph_Carries.f (k + 1) a0 a1 a2 a3 a4 a5 a6) := by
  intro a0 a1 a2 a3 a4 a5 a6 k
  obtain ⟨ih0, ih1⟩ := graph_Carries.mono_l k
  unfold graph_Carries.f
  repeat' first
      | (with_reducible exact ih0 _ _ _ _ _)
      | (with_reducible exact ih1 _ _ _ _ _ _)
      | (with_reducible exact api_Pair_63.mono _ _ _)
      | (with_reducible exact graph_Carry.mono _ _ _ _ _)
      | (with_reducible exact LeO.refl _)
      | (with_reducible exact LeO.none _)
      | (with_reducible refine LeO.ite ?_ ?_)
      | (with_reducible refine LeO.bind ?_ (fun _ => ?_))
      | exact ih0 _ _ _ _ _
      | exact ih1 _ _ _ _ _ _
      | exact api_Pair_63.mono _ _ _
      | exact graph_Carry.mono _ _ _ _ _
      | exact LeO.none _
      | refine LeO.ite ?_ ?_
      | refine LeO.bind ?_ (fun _ => ?_)
set_option maxHeartbeats 8000000 in
set_option maxRecDepth 100000 in
theorem graph_Carries.calls (k : Nat) (A0_0 : Option Addr) (c0_0 : Nat) (l0_0 : List Int) (A0_1 : Option Addr) (c0_1 : Nat) (l0_1 : List (S34)) (A0_2 : Option Addr) (c0_2 : Nat) (l0_2 : List Int) (A1_0 : Option Addr) (c1_0 : Nat) (l1_0 : List Int) (A1_1 : Option Addr) (c1_1 : Nat) (l1_1 : List (S34)) (A1_2 : Option Addr) (c1_2 : Nat) (l1_2 : List Int) (A2 : Option Addr) (c2 : Nat) (l2 : List Int) (r : Bool) (w : World) (hr0_0 : Kd.C (Kd.int .i64) w A0_0 l0_0.length l0_0) (hc0_0 : l0_0.length ≤ c0_0) (hr0_1 : Kd.C k34 w A0_1 l0_1.length l0_1) (hc0_1 : l0_1.length ≤ c0_1) (hr0_2 : Kd.C (Kd.int .i64) w A0_2 l0_2.length l0_2) (hc0_2 : l0_2.length ≤ c0_2) (hr1_0 : Kd.C (Kd.int .i64) w A1_0 l1_0.length l1_0) (hc1_0 : l1_0.length ≤ c1_0) (hr1_1 : Kd.C k34 w A1_1 l1_1.length l1_1) (hc1_1 : l1_1.length ≤ c1_1) (hr1_2 : Kd.C (Kd.int .i64) w A1_2 l1_2.length l1_2) (hc1_2 : l1_2.length ≤ c1_2) (hr2 : Kd.C (Kd.int .i64) w A2 l2.length l2) (hc2 : l2.length ≤ c2) (h : graph_Carries.f k l0_0 l0_1 l0_2 l1_0 l1_1 l1_2 l2 = some r) :
    Calls Try.prog 35 #[.agg #[.slice A0_0 l0_0.length c0_0, .slice A0_1 l0_1.length c0_1, .slice A0_2 l0_2.length c0_2], .agg #[.slice A1_0 l1_0.length c1_0, .slice A1_1 l1_1.length c1_1, .slice A1_2 l1_2.length c1_2], .slice A2 l2.length c2] w fun e w' => e = .returned (.bool r) ∧ Below w.heap.size w w' := by
  have hu51 := Try.underlying51
  have HR0_0 := Aside0.mk hr0_0
  have HC0_0 := Aside0.mk hc0_0
  clear hr0_0 hc0_0
  have HR0_1 := Aside0.mk hr0_1
  have HC0_1 := Aside0.mk hc0_1
  clear hr0_1 hc0_1
  have HR0_2 := Aside0.mk hr0_2
  have HC0_2 := Aside0.mk hc0_2
  clear hr0_2 hc0_2
  have HR1_0 := Aside0.mk hr1_0
  have HC1_0 := Aside0.mk hc1_0
  clear hr1_0 hc1_0
  have HR1_1 := Aside0.mk hr1_1
  have HC1_1 := Aside0.mk hc1_1
  clear hr1_1 hc1_1
  have HR1_2 := Aside0.mk hr1_2
  have HC1_2 := Aside0.mk hc1_2
  clear hr1_2 hc1_2
  have HR2 := Aside0.mk hr2
  have HC2 := Aside0.mk hc2
  clear hr2 hc2
  have HB := Aside0.mk (Below.refl w.heap.size w)
  have H : ((graph_Carry.f k l0_0 l0_1 l0_2 l2).bind fun bt129 => (if bt129.2.2 = true then (if (bt129.1.length : Int) > (l1_0.length : Int) then (graph_Carries.j0 k bt129.1 true l1_0 l1_1 l1_2) else ((api_Pair_63.f k bt129.2.1 l1_1).bind fun t136 => (graph_Carries.j0 k bt129.1 (!t136) l1_0 l1_1 l1_2))) else (graph_Carries.j0 k bt129.1 true l1_0 l1_1 l1_2))) = some r := h
  clear h
  replace H := Option.bind_eq_some_iff.mp H
  obtain ⟨⟨t129, t132, t135⟩, A40, H⟩ := H
  replace H : (if t135 = true then (if (t129.length : Int) > (l1_0.length : Int) then (graph_Carries.j0 k t129 true l1_0 l1_1 l1_2) else ((api_Pair_63.f k t132 l1_1).bind fun t136 => (graph_Carries.j0 k t129 (!t136) l1_0 l1_1 l1_2))) else (graph_Carries.j0 k t129 true l1_0 l1_1 l1_2)) = some r := H
  have A4 := Aside0.mk A40
  clear A40
  have HC5 := Aside0.mk H
  clear H
  go_enter Try.func35, Try.ntmps35
  go_upto_region 2 with (first | ((with_reducible refine gate_dst (N := 3) rfl ?_); (try (refine gate_guard (by rfl) ?_; dsimp only)); refine box_event ?hg (N := 3) ?hd (cs := #[.slice A0_0 l0_0.length c0_0, .slice A0_1 l0_1.length c0_1, .slice A0_2 l0_2.length c0_2]) (t := 51) ?hr ?_; (case hd => rfl); (case hg => rfl); (case hr => first | (go_simp; done) | (go_simp; rfl)); intro gb127 hg w6 hbox hb; have n0_ := Aside0.mk (below_step (by repeat (first | (with_reducible first | exact HB.out | apply below_alloc | apply pw_below_drewN | apply below_drew1) | exact HB.out)) hb); have n1_ := Aside0.mk (hbox); have n2_ := Aside0.mk ((by rw [hg]; exact (below_size (by repeat (first | (with_reducible first | exact HB.out | apply below_alloc | apply pw_below_drewN | apply below_drew1) | exact HB.out))) : w.heap.size ≤ gb127)); have n3_ := Aside0.mk ((by rw [hg]; exact (below_size (by repeat (first | (with_reducible first | exact HB.out | apply below_alloc | apply pw_below_drewN | apply below_drew1) | exact HB.out))) : w.heap.size ≤ gb127)); clear HB; have HB := n0_; have BK127 := n1_; have GW127 := n2_; have GE127 := n3_; clear n0_ n1_ n2_ n3_; clear hb hbox hg) | ((with_reducible refine gate_dst (N := 4) rfl ?_); (try (refine gate_guard (by rfl) ?_; dsimp only)); refine box_event ?hg (N := 4) ?hd (cs := #[.slice A1_0 l1_0.length c1_0, .slice A1_1 l1_1.length c1_1, .slice A1_2 l1_2.length c1_2]) (t := 51) ?hr ?_; (case hd => rfl); (case hg => rfl); (case hr => first | (go_simp; done) | (go_simp; rfl)); intro gb128 hg w7 hbox hb; have n0_ := Aside0.mk (blk_below (g := gb127) (o := .cells #[.slice A0_0 l0_0.length c0_0, .slice A0_1 l0_1.length c0_1, .slice A0_2 l0_2.length c0_2] 51 (0, 0)) (by (with_reducible repeat (first | refine blk_drewN ?_ _ | refine blk_drew ?_ | refine blk_alloc ?_ _)); exact BK127.out) hb); have n1_ := Aside0.mk (below_step (by repeat (first | (with_reducible first | exact HB.out | apply below_alloc | apply pw_below_drewN | apply below_drew1 | refine below_set ?_ GE127.out) | exact HB.out)) hb); have n2_ := Aside0.mk (hbox); have n3_ := Aside0.mk ((by rw [hg]; exact (below_size (by repeat (first | (with_reducible first | exact HB.out | apply below_alloc | apply pw_below_drewN | apply below_drew1 | refine below_set ?_ GE127.out) | exact HB.out))) : w.heap.size ≤ gb128)); have n4_ := Aside0.mk ((by rw [hg]; exact (below_size (by repeat (first | (with_reducible first | exact HB.out | apply below_alloc | apply pw_below_drewN | apply below_drew1 | refine below_set ?_ GE127.out) | exact HB.out))) : w.heap.size ≤ gb128)); have n5_ := Aside0.mk ((by rw [hg]; exact Nat.ne_of_lt (blk_lt (g := gb127) (o := .cells #[.slice A0_0 l0_0.length c0_0, .slice A0_1 l0_1.length c0_1, .slice A0_2 l0_2.length c0_2] 51 (0, 0)) (by (with_reducible repeat (first | refine blk_drewN ?_ _ | refine blk_drew ?_ | refine blk_alloc ?_ _)); exact BK127.out)) : gb127 ≠ gb128)); have n6_ := Aside0.mk ((by rw [hg]; exact Nat.ne_of_gt (blk_lt (g := gb127) (o := .cells #[.slice A0_0 l0_0.length c0_0, .slice A0_1 l0_1.length c0_1, .slice A0_2 l0_2.length c0_2] 51 (0, 0)) (by (with_reducible repeat (first | refine blk_drewN ?_ _ | refine blk_drew ?_ | refine blk_alloc ?_ _)); exact BK127.out)) : gb128 ≠ gb127)); clear BK127; clear HB; have BK127 := n0_; have HB := n1_; have BK128 := n2_; have GW128 := n3_; have GE128 := n4_; have NB127_128 := n5_; have NB128_127 := n6_; clear n0_ n1_ n2_ n3_ n4_ n5_ n6_; clear hb hbox hg; have hnb8 := NB127_128.out; have hnc8 := NB128_127.out; have hcz9_0 : w7.cell? ⟨gb127, 0, none⟩ = some (.slice A0_0 l0_0.length c0_0) := (blk_cell BK127.out 0).trans rfl; have hcz9_1 : w7.cell? ⟨gb127, 1, none⟩ = some (.slice A0_1 l0_1.length c0_1) := (blk_cell BK127.out 1).trans rfl; have hcz9_2 : w7.cell? ⟨gb127, 2, none⟩ = some (.slice A0_2 l0_2.length c0_2) := (blk_cell BK127.out 2).trans rfl; have hfz9_0 := blk_frozen BK127.out 0; have hfz9_1 := blk_frozen BK127.out 1; have hfz9_2 := blk_frozen BK127.out 2) | ((with_reducible refine gate_callee (f := 66) rfl ?_); refine goesL_ (some 15) rfl rfl Try.func66 (by kernel_rfl) rfl #[.agg #[.slice A0_0 l0_0.length c0_0, .slice A0_1 l0_1.length c0_1, .slice A0_2 l0_2.length c0_2], .slice A2 l2.length c2] rfl (by (try simp only [List.map_toArray, List.map_cons, List.map_nil]); first | done | rfl | (simp only [List.length_drop, List.length_take]; rfl)) ?_; (with_reducible refine (graph_Carry.calls k _ _ l0_0 _ _ l0_1 _ _ l0_2 _ _ l2 t129 t132 t135 _ ?side1 ?side2 ?side3 ?side4 ?side5 ?side6 ?side7 ?side8 A4.out).mono ?_); (case side1 => repeat (first | exact (Kd.C_below HR0_0.out HB.out) | (with_reducible refine Kd.C_alloc ?_ _) | (with_reducible refine Kd.C_drewN ?_ _) | (with_reducible refine Kd.C_drew ?_))); (case side2 => exact HC0_0.out); (case side3 => repeat (first | exact (Kd.C_below HR0_1.out HB.out) | (with_reducible refine Kd.C_alloc ?_ _) | (with_reducible refine Kd.C_drewN ?_ _) | (with_reducible refine Kd.C_drew ?_))); (case side4 => exact HC0_1.out); (case side5 => repeat (first | exact (Kd.C_below HR0_2.out HB.out) | (with_reducible refine Kd.C_alloc ?_ _) | (with_reducible refine Kd.C_drewN ?_ _) | (with_reducible refine Kd.C_drew ?_))); (case side6 => exact HC0_2.out); (case side7 => repeat (first | exact (Kd.C_below HR2.out HB.out) | (with_reducible refine Kd.C_alloc ?_ _) | (with_reducible refine Kd.C_drewN ?_ _) | (with_reducible refine Kd.C_drew ?_))); (case side8 => exact HC2.out); rintro e w10 ⟨v130, v133, rfl, ho0, ho1, hb⟩; refine ⟨_, rfl, ?_⟩; have n0_ := Aside0.mk (Kd.R_lower ho0 (below_size (by repeat (first | (with_reducible first | exact HB.out | apply below_alloc | apply pw_below_drewN | apply below_drew1 | refine below_set ?_ GE127.out | refine below_set ?_ GE128.out) | exact HB.out)))); have n1_ := Aside0.mk (Kd.R_lower ho1 (below_size (by repeat (first | (with_reducible first | exact HB.out | apply below_alloc | apply pw_below_drewN | apply below_drew1 | refine below_set ?_ GE127.out | refine below_set ?_ GE128.out) | exact HB.out)))); have n2_ := Aside0.mk (blk_below (g := gb127) (o := .cells #[.slice A0_0 l0_0.length c0_0, .slice A0_1 l0_1.length c0_1, .slice A0_2 l0_2.length c0_2] 51 (0, 0)) (by (with_reducible repeat (first | refine blk_drewN ?_ _ | refine blk_drew ?_ | refine blk_alloc ?_ _)); exact BK127.out) hb); have n3_ := Aside0.mk (blk_below (g := gb128) (o := .cells #[.slice A1_0 l1_0.length c1_0, .slice A1_1 l1_1.length c1_1, .slice A1_2 l1_2.length c1_2] 51 (0, 0)) (by (with_reducible repeat (first | refine blk_drewN ?_ _ | refine blk_drew ?_ | refine blk_alloc ?_ _)); exact BK128.out) hb); have n4_ := Aside0.mk (below_step (by repeat (first | (with_reducible first | exact HB.out | apply below_alloc | apply pw_below_drewN | apply below_drew1 | refine below_set ?_ GE127.out | refine below_set ?_ GE128.out) | exact HB.out)) hb); clear BK127; clear BK128; clear HB; have HO131 := n0_; have HO134 := n1_; have BK127 := n2_; have BK128 := n3_; have HB := n4_; clear n0_ n1_ n2_ n3_ n4_; (try clear hb); (try clear hb2); (try clear hk); (try clear hi); (try clear ho0); (try clear ho1)))
  (try simp only [Act.put, List.setIfInBounds_toArray, List.set_cons_zero, List.set_cons_succ])
  go_cut [35] (fun v35 wc => ∃ (kq : Nat) (x35_4 : Bool), v35 = .bool x35_4 ∧ Aside0 (graph_Carries.j0 kq t129 x35_4 l1_0 l1_1 l1_2 = some r) ∧ Aside0 (kq ≤ k) ∧ Aside0 (Kd.R (Kd.int .i64) 3 wc w.heap.size (fun _ => True) v130 t129) ∧ Aside0 (wc.heap[gb127]? = some (.cells #[(.slice A0_0 l0_0.length c0_0), (.slice A0_1 l0_1.length c0_1), (.slice A0_2 l0_2.length c0_2)] 51 (0, 0))) ∧ Aside0 (wc.heap[gb128]? = some (.cells #[(.slice A1_0 l1_0.length c1_0), (.slice A1_1 l1_1.length c1_1), (.slice A1_2 l1_2.length c1_2)] 51 (0, 0))) ∧ Aside0 (Below w.heap.size w wc))
  case first =>
    have H := HC5.out
    clear HC5
    by_cases c11 : t135 = true
    · subst c11
      have H1 : (if (t129.length : Int) > (l1_0.length : Int) then (graph_Carries.j0 k t129 true l1_0 l1_1 l1_2) else ((api_Pair_63.f k t132 l1_1).bind fun t136 => (graph_Carries.j0 k t129 (!t136) l1_0 l1_1 l1_2))) = some r := by rw [if_pos rfl] at H; exact H
      clear H
      have H := H1
      clear H1
      by_cases c12 : (t129.length : Int) > (l1_0.length : Int)
      · rw [if_pos c12] at H
        have c12b0 : decide ((l1_0.length : Int) < (t129.length : Int)) = true := decide_eq_true c12
        have c12b1 : decide (l1_0.length < t129.length) = true := decide_eq_true (Int.ofNat_lt.mp c12)
        clear c12
        (first | rw [c12b0] | (simp only [i64_w, i32_w]; rw [c12b0]) | skip)
        have H' := Aside0.mk H
        clear H
        obtain ⟨Ao13, co13, eo13⟩ := Kd.R_slice HO131.out
        subst eo13
        have hnb14 := NB128_127.out
        have hnc14 := NB127_128.out
        have hcz15_0 : w10.cell? ⟨gb128, 0, none⟩ = some (.slice A1_0 l1_0.length c1_0) := (blk_cell BK128.out 0).trans rfl
        have hcz15_1 : w10.cell? ⟨gb128, 1, none⟩ = some (.slice A1_1 l1_1.length c1_1) := (blk_cell BK128.out 1).trans rfl
        have hcz15_2 : w10.cell? ⟨gb128, 2, none⟩ = some (.slice A1_2 l1_2.length c1_2) := (blk_cell BK128.out 2).trans rfl
        have hfz15_0 := blk_frozen BK128.out 0
        have hfz15_1 := blk_frozen BK128.out 1
        have hfz15_2 := blk_frozen BK128.out 2
        go_wp2
        go_meet
        case rel => exact ⟨_, (true), (by first | rfl | (simp; done) | (simp [*]; done)), H', ⟨by first | omega | exact Nat.le_refl _⟩, ⟨by (with_reducible repeat (first | apply Kd.R_alloc | apply Kd.R_drewN | apply Kd.R_drew)); exact HO131.out⟩, ⟨by (with_reducible repeat (first | refine blk_drewN ?_ _ | refine blk_drew ?_ | refine blk_alloc ?_ _)); exact BK127.out⟩, ⟨by (with_reducible repeat (first | refine blk_drewN ?_ _ | refine blk_drew ?_ | refine blk_alloc ?_ _)); exact BK128.out⟩, ⟨by repeat (first | (with_reducible first | exact HB.out | apply below_alloc | apply pw_below_drewN | apply below_drew1 | refine below_set ?_ GE127.out | refine below_set ?_ GE128.out) | exact HB.out)⟩⟩
      · rw [if_neg c12] at H
        have c12b0 : decide ((l1_0.length : Int) < (t129.length : Int)) = false := decide_eq_false c12
        have c12b1 : decide (l1_0.length < t129.length) = false := decide_eq_false (fun h => c12 (Int.ofNat_lt.mpr h))
        clear c12
        (first | rw [c12b0] | (simp only [i64_w, i32_w]; rw [c12b0]) | skip)
        replace H := Option.bind_eq_some_iff.mp H
        obtain ⟨t136, A160, H⟩ := H
        replace H : (graph_Carries.j0 k t129 (!t136) l1_0 l1_1 l1_2) = some r := H
        have A16 := Aside0.mk A160
        clear A160
        have H' := Aside0.mk H
        clear H
        obtain ⟨Ao17, co17, eo17⟩ := Kd.R_slice HO131.out
        subst eo17
        have hnb18 := NB128_127.out
        have hnc18 := NB127_128.out
        have hcz19_0 : w10.cell? ⟨gb128, 0, none⟩ = some (.slice A1_0 l1_0.length c1_0) := (blk_cell BK128.out 0).trans rfl
        have hcz19_1 : w10.cell? ⟨gb128, 1, none⟩ = some (.slice A1_1 l1_1.length c1_1) := (blk_cell BK128.out 1).trans rfl
        have hcz19_2 : w10.cell? ⟨gb128, 2, none⟩ = some (.slice A1_2 l1_2.length c1_2) := (blk_cell BK128.out 2).trans rfl
        have hfz19_0 := blk_frozen BK128.out 0
        have hfz19_1 := blk_frozen BK128.out 1
        have hfz19_2 := blk_frozen BK128.out 2
        obtain ⟨Ao20, co20, eo20⟩ := Kd.R_slice HO134.out
        subst eo20
        go_wp2_with (first | (go_at_call 63; (with_reducible refine (api_Pair_63.calls k _ _ t132 _ _ l1_1 t136 _ ?side1 ?side2 ?side3 ?side4 A16.out).mono ?_); (case side1 => repeat (first | exact (Kd.R_reads' HO134.out).2.2 | (with_reducible refine Kd.C_alloc ?_ _) | (with_reducible refine Kd.C_drewN ?_ _) | (with_reducible refine Kd.C_drew ?_))); (case side2 => exact (Kd.R_reads' HO134.out).2.1); (case side3 => repeat (first | exact (Kd.C_below HR1_1.out HB.out) | (with_reducible refine Kd.C_alloc ?_ _) | (with_reducible refine Kd.C_drewN ?_ _) | (with_reducible refine Kd.C_drew ?_))); (case side4 => exact HC1_1.out); rintro e w' ⟨rfl, ⟨nd, rfl⟩⟩))
        go_meet
        case rel => exact ⟨_, (!t136), (by first | rfl | (simp; done) | (simp [*]; done)), H', ⟨by first | omega | exact Nat.le_refl _⟩, ⟨by (with_reducible repeat (first | apply Kd.R_alloc | apply Kd.R_drewN | apply Kd.R_drew)); exact HO131.out⟩, ⟨by (with_reducible repeat (first | refine blk_drewN ?_ _ | refine blk_drew ?_ | refine blk_alloc ?_ _)); exact BK127.out⟩, ⟨by (with_reducible repeat (first | refine blk_drewN ?_ _ | refine blk_drew ?_ | refine blk_alloc ?_ _)); exact BK128.out⟩, ⟨by repeat (first | (with_reducible first | exact HB.out | apply below_alloc | apply pw_below_drewN | apply below_drew1 | refine below_set ?_ GE127.out | refine below_set ?_ GE128.out) | exact HB.out)⟩⟩
    · replace c11 := Bool.eq_false_iff.mpr c11
      subst c11
      have H1 : (graph_Carries.j0 k t129 true l1_0 l1_1 l1_2) = some r := by rw [if_neg (show ¬ (false = true) by decide)] at H; exact H
      clear H
      have H := H1
      clear H1
      have H' := Aside0.mk H
      clear H
      go_wp2
      go_meet
      case rel => exact ⟨_, (true), (by first | rfl | (simp; done) | (simp [*]; done)), H', ⟨by first | omega | exact Nat.le_refl _⟩, ⟨by (with_reducible repeat (first | apply Kd.R_alloc | apply Kd.R_drewN | apply Kd.R_drew)); exact HO131.out⟩, ⟨by (with_reducible repeat (first | refine blk_drewN ?_ _ | refine blk_drew ?_ | refine blk_alloc ?_ _)); exact BK127.out⟩, ⟨by (with_reducible repeat (first | refine blk_drewN ?_ _ | refine blk_drew ?_ | refine blk_alloc ?_ _)); exact BK128.out⟩, ⟨by repeat (first | (with_reducible first | exact HB.out | apply below_alloc | apply pw_below_drewN | apply below_drew1 | refine below_set ?_ GE127.out | refine below_set ?_ GE128.out) | exact HB.out)⟩⟩
  case rest =>
    clear HC5
    try clear c1
    try clear c2
    try clear p2
    try clear c3
    try clear c6
    try clear c8
    try clear c11
    try clear c12
    try clear c12b0
    try clear c12b1
    try clear c14
    try clear c18
    try clear hcz15_0
    try clear hcz15_1
    try clear hcz15_2
    try clear hcz19_0
    try clear hcz19_1
    try clear hcz19_2
    try clear hcz9_0
    try clear hcz9_1
    try clear hcz9_2
    try clear hfz15_0
    try clear hfz15_1
    try clear hfz15_2
    try clear hfz19_0
    try clear hfz19_1
    try clear hfz19_2
    try clear hfz9_0
    try clear hfz9_1
    try clear hfz9_2
    obtain ⟨kq, x35_4, rfl, HA, HJ4, HO_7, BK127, BK128, HB⟩ := hcut
    cases kq with
    | zero => exact absurd HA.out (by simp [graph_Carries.j0])
    | succ kj4 =>
      have H := HA.out
      clear HA
      simp only [graph_Carries.j0] at H
      by_cases c21 : x35_4 = true
      · subst c21
        have H1 : (some false) = some r := by rw [if_pos rfl] at H; exact H
        clear H
        have H := H1
        clear H1
        obtain rfl := Option.some.inj H
        go_wp2
        go_ret
        exact ⟨by first | rfl | (simp [errW_none, errW_some] <;> rfl) | (simp [*, errW_none, errW_some] <;> rfl), by repeat (first | (with_reducible first | exact HB.out | apply below_alloc | apply pw_below_drewN | apply below_drew1 | refine below_set ?_ GE127.out | refine below_set ?_ GE128.out) | exact HB.out)⟩
      · replace c21 := Bool.eq_false_iff.mpr c21
        subst c21
        have H1 : (graph_Carries.l0 kj4 t129 (t129.length : Int) 0 l1_0 l1_1 l1_2) = some r := by rw [if_neg (show ¬ (false = true) by decide)] at H; exact H
        clear H
        have H := H1
        clear H1
        have H' := Aside0.mk H
        clear H
        obtain ⟨Ao22, co22, eo22⟩ := Kd.R_slice HO_7.out
        subst eo22
        go_wp2
        go_loopg [38] kj4 (fun kq v38 w' => ∃ (x38_2 : Int), v38 = .int .i64 x38_2 ∧ Aside0 (graph_Carries.l0 kq t129 (t129.length : Int) x38_2 l1_0 l1_1 l1_2 = some r) ∧ Aside0 (kq ≤ kj4) ∧ Aside0 (Kd.R (Kd.int .i64) 3 w' w.heap.size (fun _ => True) (.slice Ao22 t129.length co22) t129) ∧ Aside0 (w'.heap[gb127]? = some (.cells #[(.slice A0_0 l0_0.length c0_0), (.slice A0_1 l0_1.length c0_1), (.slice A0_2 l0_2.length c0_2)] 51 (0, 0))) ∧ Aside0 (w'.heap[gb128]? = some (.cells #[(.slice A1_0 l1_0.length c1_0), (.slice A1_1 l1_1.length c1_1), (.slice A1_2 l1_2.length c1_2)] 51 (0, 0))) ∧ Aside0 (Below w.heap.size w w'))
        case atStart => exact ⟨(0), (by first | rfl | (simp; done) | (simp [*]; done)), H', ⟨Nat.le_refl _⟩, ⟨by (with_reducible repeat (first | apply Kd.R_alloc | apply Kd.R_drewN | apply Kd.R_drew)); exact HO_7.out⟩, ⟨by (with_reducible repeat (first | refine blk_drewN ?_ _ | refine blk_drew ?_ | refine blk_alloc ?_ _)); exact BK127.out⟩, ⟨by (with_reducible repeat (first | refine blk_drewN ?_ _ | refine blk_drew ?_ | refine blk_alloc ?_ _)); exact BK128.out⟩, ⟨by repeat (first | (with_reducible first | exact HB.out | apply below_alloc | apply pw_below_drewN | apply below_drew1 | refine below_set ?_ GE127.out | refine below_set ?_ GE128.out) | exact HB.out)⟩⟩
        case round =>
          clear H'
          try clear c1
          try clear c2
          try clear p2
          try clear c3
          try clear c6
          try clear c8
          try clear c11
          try clear c12
          try clear c12b0
          try clear c12b1
          try clear c14
          try clear c18
          try clear c21
          try clear hcz15_0
          try clear hcz15_1
          try clear hcz15_2
          try clear hcz19_0
          try clear hcz19_1
          try clear hcz19_2
          try clear hcz9_0
          try clear hcz9_1
          try clear hcz9_2
          try clear hfz15_0
          try clear hfz15_1
          try clear hfz15_2
          try clear hfz19_0
          try clear hfz19_1
          try clear hfz19_2
          try clear hfz9_0
          try clear hfz9_1
          try clear hfz9_2
          try clear p2
          obtain ⟨x38_2, rfl, HA, HK2, HO_36, BK127, BK128, HB⟩ := hrel
          cases gk with
          | zero => exact absurd HA.out (by simp [graph_Carries.l0])
          | succ k2 =>
            have H := HA.out
            clear HA
            simp only [graph_Carries.l0] at H
            by_cases c23 : x38_2 < (t129.length : Int)
            · rw [if_pos c23] at H
              have c23b0 : decide (x38_2 < (t129.length : Int)) = true := decide_eq_true c23
              clear c23
              by_cases c24 : 0 ≤ x38_2
              · rw [if_pos c24] at H
                have c24b0 : decide (0 ≤ x38_2) = true := decide_eq_true c24
                clear c24
                by_cases c25 : x38_2 < (t129.length : Int)
                · rw [if_pos c25] at H
                  have c25b0 : decide (x38_2 < (t129.length : Int)) = true := decide_eq_true c25
                  clear c25
                  by_cases c26 : (rd t129 x38_2) = (-1)
                  · rw [if_pos c26] at H
                    have c26b0 : ((rd t129 x38_2) == (-1)) = true := beq_iff_eq.mpr c26
                    have c26b1 : ((rd t129 x38_2) != (-1)) = false := bne_eq_false_iff_eq.mpr c26
                    clear c26
                    have H' := Aside0.mk H
                    clear H
                    have p137 : 0 ≤ (x38_2 : Int) := of_decide_eq_true (by first | (with_reducible assumption) | assumption)
                    have q137 : x38_2 < (t129.length : Int) := of_decide_eq_true (by first | (with_reducible assumption) | assumption)
                    obtain ⟨ad137, e137, hx137_0⟩ := Kd.at_int (Kd.R_reads' HO_36.out).2.2 x38_2 p137 q137
                    cases e137
                    replace p137 := eq_true p137
                    replace q137 := eq_true q137
                    go_wp2
                    go_roundg k2
                    case measure => have := HJ4.out; have := HK2.out; omega
                    case rel => exact ⟨(wrap64 (x38_2 + 1)), (by first | rfl | (simp; done) | (simp [*]; done)), H', ⟨by have := HJ4.out; have := HK2.out; omega⟩, ⟨by (with_reducible repeat (first | apply Kd.R_alloc | apply Kd.R_drewN | apply Kd.R_drew)); exact HO_36.out⟩, ⟨by (with_reducible repeat (first | refine blk_drewN ?_ _ | refine blk_drew ?_ | refine blk_alloc ?_ _)); exact BK127.out⟩, ⟨by (with_reducible repeat (first | refine blk_drewN ?_ _ | refine blk_drew ?_ | refine blk_alloc ?_ _)); exact BK128.out⟩, ⟨by repeat (first | (with_reducible first | exact HB.out | apply below_alloc | apply pw_below_drewN | apply below_drew1 | refine below_set ?_ GE127.out | refine below_set ?_ GE128.out) | exact HB.out)⟩⟩
                  · rw [if_neg c26] at H
                    have c26b0 : ((rd t129 x38_2) == (-1)) = false := beq_eq_false_iff_ne.mpr c26
                    have c26b1 : ((rd t129 x38_2) != (-1)) = true := bne_iff_ne.mpr c26
                    by_cases c27 : x38_2 < (l1_0.length : Int)
                    · rw [if_pos c27] at H
                      have c27b0 : decide (x38_2 < (l1_0.length : Int)) = true := decide_eq_true c27
                      clear c27
                      by_cases c28 : (rd l1_0 x38_2) = (rd t129 x38_2)
                      · rw [if_pos c28] at H
                        have c28b0 : ((rd l1_0 x38_2) == (rd t129 x38_2)) = true := beq_iff_eq.mpr c28
                        have c28b1 : ((rd l1_0 x38_2) != (rd t129 x38_2)) = false := bne_eq_false_iff_eq.mpr c28
                        clear c28
                        have H' := Aside0.mk H
                        clear H
                        have p137 : 0 ≤ (x38_2 : Int) := of_decide_eq_true (by first | (with_reducible assumption) | assumption)
                        have q137 : x38_2 < (t129.length : Int) := of_decide_eq_true (by first | (with_reducible assumption) | assumption)
                        obtain ⟨ad137, e137, hx137_0⟩ := Kd.at_int (Kd.R_reads' HO_36.out).2.2 x38_2 p137 q137
                        cases e137
                        replace p137 := eq_true p137
                        replace q137 := eq_true q137
                        have hnb29 := NB128_127.out
                        have hnc29 := NB127_128.out
                        have hcz30_0 : wr.cell? ⟨gb128, 0, none⟩ = some (.slice A1_0 l1_0.length c1_0) := (blk_cell BK128.out 0).trans rfl
                        have hcz30_1 : wr.cell? ⟨gb128, 1, none⟩ = some (.slice A1_1 l1_1.length c1_1) := (blk_cell BK128.out 1).trans rfl
                        have hcz30_2 : wr.cell? ⟨gb128, 2, none⟩ = some (.slice A1_2 l1_2.length c1_2) := (blk_cell BK128.out 2).trans rfl
                        have hfz30_0 := blk_frozen BK128.out 0
                        have hfz30_1 := blk_frozen BK128.out 1
                        have hfz30_2 := blk_frozen BK128.out 2
                        have p138 : 0 ≤ (x38_2 : Int) := of_decide_eq_true (by first | (with_reducible assumption) | assumption)
                        have q138 : x38_2 < (l1_0.length : Int) := of_decide_eq_true (by first | (with_reducible assumption) | assumption)
                        obtain ⟨ad138, e138, hx138_0⟩ := Kd.at_int HR1_0.out x38_2 p138 q138
                        cases e138
                        replace hx138_0 := (HB.out.cell (World.block_lt_of_cell? w _ hx138_0)).trans hx138_0
                        replace p138 := eq_true p138
                        replace q138 := eq_true q138
                        go_wp2
                        go_roundg k2
                        case measure => have := HJ4.out; have := HK2.out; omega
                        case rel => exact ⟨(wrap64 (x38_2 + 1)), (by first | rfl | (simp; done) | (simp [*]; done)), H', ⟨by have := HJ4.out; have := HK2.out; omega⟩, ⟨by (with_reducible repeat (first | apply Kd.R_alloc | apply Kd.R_drewN | apply Kd.R_drew)); exact HO_36.out⟩, ⟨by (with_reducible repeat (first | refine blk_drewN ?_ _ | refine blk_drew ?_ | refine blk_alloc ?_ _)); exact BK127.out⟩, ⟨by (with_reducible repeat (first | refine blk_drewN ?_ _ | refine blk_drew ?_ | refine blk_alloc ?_ _)); exact BK128.out⟩, ⟨by repeat (first | (with_reducible first | exact HB.out | apply below_alloc | apply pw_below_drewN | apply below_drew1 | refine below_set ?_ GE127.out | refine below_set ?_ GE128.out) | exact HB.out)⟩⟩
                      · rw [if_neg c28] at H
                        have c28b0 : ((rd l1_0 x38_2) == (rd t129 x38_2)) = false := beq_eq_false_iff_ne.mpr c28
                        have c28b1 : ((rd l1_0 x38_2) != (rd t129 x38_2)) = true := bne_iff_ne.mpr c28
                        obtain rfl := Option.some.inj H
                        have p137 : 0 ≤ (x38_2 : Int) := of_decide_eq_true (by first | (with_reducible assumption) | assumption)
                        have q137 : x38_2 < (t129.length : Int) := of_decide_eq_true (by first | (with_reducible assumption) | assumption)
                        obtain ⟨ad137, e137, hx137_0⟩ := Kd.at_int (Kd.R_reads' HO_36.out).2.2 x38_2 p137 q137
                        cases e137
                        replace p137 := eq_true p137
                        replace q137 := eq_true q137
                        have hnb31 := NB128_127.out
                        have hnc31 := NB127_128.out
                        have hcz32_0 : wr.cell? ⟨gb128, 0, none⟩ = some (.slice A1_0 l1_0.length c1_0) := (blk_cell BK128.out 0).trans rfl
                        have hcz32_1 : wr.cell? ⟨gb128, 1, none⟩ = some (.slice A1_1 l1_1.length c1_1) := (blk_cell BK128.out 1).trans rfl
                        have hcz32_2 : wr.cell? ⟨gb128, 2, none⟩ = some (.slice A1_2 l1_2.length c1_2) := (blk_cell BK128.out 2).trans rfl
                        have hfz32_0 := blk_frozen BK128.out 0
                        have hfz32_1 := blk_frozen BK128.out 1
                        have hfz32_2 := blk_frozen BK128.out 2
                        have p138 : 0 ≤ (x38_2 : Int) := of_decide_eq_true (by first | (with_reducible assumption) | assumption)
                        have q138 : x38_2 < (l1_0.length : Int) := of_decide_eq_true (by first | (with_reducible assumption) | assumption)
                        obtain ⟨ad138, e138, hx138_0⟩ := Kd.at_int HR1_0.out x38_2 p138 q138
                        cases e138
                        replace hx138_0 := (HB.out.cell (World.block_lt_of_cell? w _ hx138_0)).trans hx138_0
                        replace p138 := eq_true p138
                        replace q138 := eq_true q138
                        go_wp2
                        go_ret
                        exact ⟨by first | rfl | (simp [errW_none, errW_some] <;> rfl) | (simp [*, errW_none, errW_some] <;> rfl), by repeat (first | (with_reducible first | exact HB.out | apply below_alloc | apply pw_below_drewN | apply below_drew1 | refine below_set ?_ GE127.out | refine below_set ?_ GE128.out) | exact HB.out)⟩
                    · rw [if_neg c27] at H
                      exact absurd H (by simp)
                · rw [if_neg c25] at H
                  exact absurd H (by simp)
              · rw [if_neg c24] at H
                exact absurd H (by simp)
            · rw [if_neg c23] at H
              have c23b0 : decide (x38_2 < (t129.length : Int)) = false := decide_eq_false c23
              clear c23
              obtain rfl := Option.some.inj H
              go_wp2
              go_ret
              exact ⟨by first | rfl | (simp [errW_none, errW_some] <;> rfl) | (simp [*, errW_none, errW_some] <;> rfl), by repeat (first | (with_reducible first | exact HB.out | apply below_alloc | apply pw_below_drewN | apply below_drew1 | refine below_set ?_ GE127.out | refine below_set ?_ GE128.out) | exact HB.out)⟩

/-! ### oriellaw15_alive: function 29 -/
def alvE : List Int := [0, 0, 2]
def alvV : List Int := [-1, -1, -1]
def alvO : List S92 := [⟨0, 0, 0, 1, true⟩, ⟨0, 0, 0, 1, false⟩, ⟨0, 0, 0, 1, true⟩]
def oriellaw15_alive.f (k : Nat) : Option Bool :=
  (graph_Right.f k alvE ([] : List S34) alvV alvO).bind fun a => (graph_Family.f k alvE ([] : List S34) alvV 1).bind fun b => (oriellaw01_Ints.f k b [0, 1]).bind fun c => (graph_Spare.f k alvE ([] : List S34) alvV alvO).bind fun d => (oriellaw01_Ints.f k d [2]).bind fun e =>
    (graph_Carries.f k alvE ([] : List S34) alvV alvE ([] : List S34) alvV [0, 1, 2]).bind fun p => (graph_Carries.f k alvE ([] : List S34) alvV alvE ([] : List S34) alvV [2, 1, 0]).bind fun q =>
      if (a = true ∧ c = true) ∧ (e = true ∧ p = true) ∧ q = false then some true else none
theorem oriellaw15_alive.mono : ∀ k, LeO (oriellaw15_alive.f k) (oriellaw15_alive.f (k + 1)) := by
  intro k
  unfold oriellaw15_alive.f
  refine LeO.bind (graph_Right.mono _ _ _ _ k) fun a => LeO.bind (graph_Family.mono _ _ _ _ k) fun b => LeO.bind (oriellaw01_Ints.mono _ _ k) fun c => LeO.bind (graph_Spare.mono _ _ _ _ k) fun d => LeO.bind (oriellaw01_Ints.mono _ _ k) fun e => LeO.bind (graph_Carries.mono _ _ _ _ _ _ _ k) fun p => LeO.bind (graph_Carries.mono _ _ _ _ _ _ _ k) fun q => LeO.refl _
set_option maxHeartbeats 8000000 in
set_option maxRecDepth 100000 in
theorem oriellaw15_alive.calls (k : Nat)  (r : Bool) (w : World) (h : oriellaw15_alive.f k  = some r) :
    Calls Try.prog 29 #[] w fun e w' => e = .returned (.bool r) ∧ Below w.heap.size w w' := by
  have hu51 := Try.underlying51
  have hu92 := Try.underlying92
  unfold oriellaw15_alive.f at h
  obtain ⟨a, ha, h⟩ := Option.bind_eq_some_iff.mp h
  obtain ⟨b, hb, h⟩ := Option.bind_eq_some_iff.mp h
  obtain ⟨c, hc, h⟩ := Option.bind_eq_some_iff.mp h
  obtain ⟨d, hd, h⟩ := Option.bind_eq_some_iff.mp h
  obtain ⟨e, he, h⟩ := Option.bind_eq_some_iff.mp h
  obtain ⟨p, hp, h⟩ := Option.bind_eq_some_iff.mp h
  obtain ⟨q, hq, h⟩ := Option.bind_eq_some_iff.mp h
  by_cases hall : (a = true ∧ c = true) ∧ (e = true ∧ p = true) ∧ q = false
  · rw [if_pos hall] at h
    obtain rfl := Option.some.inj h
    obtain ⟨⟨rfl, rfl⟩, ⟨rfl, rfl⟩, rfl⟩ := hall
    clear h
    obtain ⟨E, hE⟩ : ∃ E, alvE = E := ⟨_, rfl⟩
    obtain ⟨V, hV⟩ : ∃ V, alvV = V := ⟨_, rfl⟩
    obtain ⟨O, hO⟩ : ∃ O, alvO = O := ⟨_, rfl⟩
    obtain ⟨T1, hT1⟩ : ∃ T1 : List Int, [0, 1] = T1 := ⟨_, rfl⟩
    obtain ⟨T2, hT2⟩ : ∃ T2 : List Int, [2] = T2 := ⟨_, rfl⟩
    obtain ⟨T3, hT3⟩ : ∃ T3 : List Int, [0, 1, 2] = T3 := ⟨_, rfl⟩
    obtain ⟨T4, hT4⟩ : ∃ T4 : List Int, [2, 1, 0] = T4 := ⟨_, rfl⟩
    rw [hE, hV, hO] at ha hd
    rw [hE, hV] at hb hp hq
    rw [hT1] at hc
    rw [hT2] at he
    rw [hT3] at hp
    rw [hT4] at hq
    have HA := Lib.hid ha; have HBf := Lib.hid hb; have HCf := Lib.hid hc; have HDf := Lib.hid hd; have HEf := Lib.hid he; have HP := Lib.hid hp; have HQ := Lib.hid hq
    have GE := Lib.hid hE; have GV := Lib.hid hV; have GO := Lib.hid hO; have G1 := Lib.hid hT1; have G2 := Lib.hid hT2; have G3 := Lib.hid hT3; have G4 := Lib.hid hT4
    clear ha hb hc hd he hp hq hE hV hO hT1 hT2 hT3 hT4
    go_enter Try.func29, Try.ntmps29
    go_wp2_with (first
      | ((with_reducible refine gate_dst (N := 3) rfl ?_); refine Kd.R_lit (Kd.int .i64) _ 3 ?hg (N := 3) ?hd (xs := ([0, 0, 2] : List Int)) (inner := [.int .i64 0, .int .i64 0, .int .i64 2]) (ok := fun _ => True) (okp := fun _ => True) ?hr ?hp (fun _ hk => hk) trivial (Below.refl _ _) (Nat.le_refl _) (by simp) ?_; (case hd => rfl); (case hg => rfl); (case hr => first | (go_simp; done) | (go_simp; rfl)); (case hp => exact (Reps.one (show Kd.M (Kd.int .i64) _ _ _ 0 [.int .i64 0] from rfl) (Reps.one (show Kd.M (Kd.int .i64) _ _ _ 0 [.int .i64 0] from rfl) (Reps.one (show Kd.M (Kd.int .i64) _ _ _ 2 [.int .i64 2] from rfl) (Reps.none _ _))))); intro v_ w1 ho hb hg_ hnew_; clear hg_ hnew_; rw [show ([0, 0, 2] : List Int) = _ from GE.out] at ho; obtain ⟨AE, cE, rfl, hcE, hC_⟩ := Kd.R_reads ho; have HCE := Aside0.mk hC_; have HCEc := Lib.hid hcE; have HB1 := Aside0.mk hb; clear ho hb hC_ hcE)
      | ((with_reducible refine gate_dst (N := 4) rfl ?_); refine Kd.R_lit (Kd.int .i64) _ 3 ?hg (N := 4) ?hd (xs := ([(-1), (-1), (-1)] : List Int)) (inner := [.int .i64 (-1), .int .i64 (-1), .int .i64 (-1)]) (ok := fun _ => True) (okp := fun _ => True) ?hr ?hp (fun _ hk => hk) trivial (Below.refl _ _) (Nat.le_refl _) (by simp) ?_; (case hd => rfl); (case hg => rfl); (case hr => first | (go_simp; done) | (go_simp; rfl)); (case hp => exact (Reps.one (show Kd.M (Kd.int .i64) _ _ _ (-1) [.int .i64 (-1)] from rfl) (Reps.one (show Kd.M (Kd.int .i64) _ _ _ (-1) [.int .i64 (-1)] from rfl) (Reps.one (show Kd.M (Kd.int .i64) _ _ _ (-1) [.int .i64 (-1)] from rfl) (Reps.none _ _))))); intro v_ w2 ho hb hg_ hnew_; clear hg_ hnew_; rw [show ([(-1), (-1), (-1)] : List Int) = _ from GV.out] at ho; obtain ⟨AV, cV, rfl, hcV, hC_⟩ := Kd.R_reads ho; have HCV := Aside0.mk hC_; have HCVc := Lib.hid hcV; have HCE2 := Aside0.mk (Kd.C_below HCE.out hb); have HB2 := Aside0.mk (below_step HB1.out hb); clear ho hb hC_ hcV)
      | ((with_reducible refine gate_dst (N := 9) rfl ?_); refine Kd.R_lit k92 _ 92 ?hg (N := 9) ?hd (xs := ([(⟨0, 0, 0, 1, true⟩ : S92), (⟨0, 0, 0, 1, false⟩ : S92), (⟨0, 0, 0, 1, true⟩ : S92)] : List S92)) (inner := [.int .i64 0, .int .i64 0, .int .i64 0, .int .i64 1, .bool true, .int .i64 0, .int .i64 0, .int .i64 0, .int .i64 1, .bool false, .int .i64 0, .int .i64 0, .int .i64 0, .int .i64 1, .bool true]) (ok := fun _ => True) (okp := fun _ => True) ?hr ?hp (fun _ hk => hk) trivial (Below.refl _ _) (Nat.le_refl _) (by simp) ?_; (case hd => rfl); (case hg => rfl); (case hr => first | (go_simp; done) | (go_simp; rfl)); (case hp => exact (Reps.c5 (show Kd.M k92 _ _ _ (⟨0, 0, 0, 1, true⟩ : S92) [.int .i64 0, .int .i64 0, .int .i64 0, .int .i64 1, .bool true] from (k92_mkM _ _ _ (⟨0, 0, 0, 1, true⟩ : S92) )) (Reps.c5 (show Kd.M k92 _ _ _ (⟨0, 0, 0, 1, false⟩ : S92) [.int .i64 0, .int .i64 0, .int .i64 0, .int .i64 1, .bool false] from (k92_mkM _ _ _ (⟨0, 0, 0, 1, false⟩ : S92) )) (Reps.c5 (show Kd.M k92 _ _ _ (⟨0, 0, 0, 1, true⟩ : S92) [.int .i64 0, .int .i64 0, .int .i64 0, .int .i64 1, .bool true] from (k92_mkM _ _ _ (⟨0, 0, 0, 1, true⟩ : S92) )) (Reps.none _ _))))); intro v_ w3 ho hb hg_ hnew_; clear hg_ hnew_; rw [show ([(⟨0, 0, 0, 1, true⟩ : S92), (⟨0, 0, 0, 1, false⟩ : S92), (⟨0, 0, 0, 1, true⟩ : S92)] : List S92) = O from GO.out] at ho; obtain ⟨AO, cO, rfl, hcO, hC_⟩ := Kd.R_reads ho; have HCOc := Lib.hid hcO; have HCO := Aside0.mk hC_; have HK := Aside0.mk ((hb.block w2.heap.size (by simp)).trans (blk_new w2 (.cells #[.slice AE E.length cE, .slice none 0 0, .slice AV V.length cV] 51))); have HCE3 := Aside0.mk (Kd.C_below (Kd.C_alloc HCE2.out _) hb); have HCV3 := Aside0.mk (Kd.C_below (Kd.C_alloc HCV.out _) hb); have HB3 := Aside0.mk (below_step (below_alloc HB2.out _) hb); clear ho hb hC_ hcO HCE2 HCV HB2; have q0 : w3.cell? ⟨w2.heap.size, 0, none⟩ = some (.slice AE E.length cE) := (blk_cell HK.out 0).trans rfl; have q1 : w3.cell? ⟨w2.heap.size, 1, none⟩ = some (.slice none 0 0) := (blk_cell HK.out 1).trans rfl; have q2 : w3.cell? ⟨w2.heap.size, 2, none⟩ = some (.slice AV V.length cV) := (blk_cell HK.out 2).trans rfl))
    clear HCE
    have HCE := HCE3; have HCV := HCV3; have HB := HB3; clear HCE3 HCV3 HB3 HB1
    refine (graph_Right.calls k AE cE E none 0 [] AV cV V AO cO O true w3 HCE.out HCEc.out (Kd.C_nil _ _) (Nat.le_refl _) HCV.out HCVc.out HCO.out HCOc.out HA.out).mono ?_
    rintro e w4 ⟨rfl, hb⟩
    clear q0 q1 q2
    have n0 := Aside0.mk (Kd.C_below HCE.out hb); have n1 := Aside0.mk (Kd.C_below HCV.out hb); have n2 := Aside0.mk (Kd.C_below HCO.out hb); have n3 := Aside0.mk ((hb.block w2.heap.size (blk_lt HK.out)).trans HK.out); have n4 := Aside0.mk (below_step HB.out hb); clear HCE HCV HCO HK HB; have HCE := n0; have HCV := n1; have HCO := n2; have HK := n3; have HB := n4; clear n0 n1 n2 n3 n4; clear hb
    have q0 : w4.cell? ⟨w2.heap.size, 0, none⟩ = some (.slice AE E.length cE) := (blk_cell HK.out 0).trans rfl; have q1 : w4.cell? ⟨w2.heap.size, 1, none⟩ = some (.slice none 0 0) := (blk_cell HK.out 1).trans rfl; have q2 : w4.cell? ⟨w2.heap.size, 2, none⟩ = some (.slice AV V.length cV) := (blk_cell HK.out 2).trans rfl
    go_wp2_with fail
    refine (graph_Family.calls k AE cE E none 0 [] AV cV V 1 b w4 HCE.out HCEc.out (Kd.C_nil _ _) (Nat.le_refl _) HCV.out HCVc.out HBf.out).mono ?_
    rintro e w5 ⟨v_, rfl, ho, hb⟩
    clear q0 q1 q2
    obtain ⟨AF, cF, rfl, hcF, hC_⟩ := Kd.R_reads ho
    have HCF := Aside0.mk hC_; have HCFc := Lib.hid hcF; clear hC_ hcF ho
    have n0 := Aside0.mk (Kd.C_below HCE.out hb); have n1 := Aside0.mk (Kd.C_below HCV.out hb); have n2 := Aside0.mk (Kd.C_below HCO.out hb); have n3 := Aside0.mk ((hb.block w2.heap.size (blk_lt HK.out)).trans HK.out); have n4 := Aside0.mk (below_step HB.out hb); clear HCE HCV HCO HK HB; have HCE := n0; have HCV := n1; have HCO := n2; have HK := n3; have HB := n4; clear n0 n1 n2 n3 n4; clear hb
    have q0 : w5.cell? ⟨w2.heap.size, 0, none⟩ = some (.slice AE E.length cE) := (blk_cell HK.out 0).trans rfl; have q1 : w5.cell? ⟨w2.heap.size, 1, none⟩ = some (.slice none 0 0) := (blk_cell HK.out 1).trans rfl; have q2 : w5.cell? ⟨w2.heap.size, 2, none⟩ = some (.slice AV V.length cV) := (blk_cell HK.out 2).trans rfl
    go_wp2_with (((with_reducible refine gate_dst (N := 16) rfl ?_); (try (refine gate_guard (by rfl) ?_; dsimp only)); refine Kd.R_lit (Kd.int .i64) _ 3 ?hg (N := 16) ?hd (xs := ([0, 1] : List Int)) (inner := [.int .i64 0, .int .i64 1]) (ok := fun _ => True) (okp := fun _ => True) ?hr ?hp (fun _ hk => hk) trivial (Below.refl _ _) (Nat.le_refl _) (by simp) ?_; (case hd => rfl); (case hg => rfl); (case hr => first | (go_simp; done) | (go_simp; rfl)); (case hp => exact (Reps.one (show Kd.M (Kd.int .i64) _ _ _ 0 [.int .i64 0] from rfl) (Reps.one (show Kd.M (Kd.int .i64) _ _ _ 1 [.int .i64 1] from rfl) (Reps.none _ _)))); intro v_ w6 ho hb hg_ hnew_; clear hg_ hnew_; rw [show ([0, 1] : List Int) = _ from G1.out] at ho; obtain ⟨AX, cX, rfl, hcX, hC_⟩ := Kd.R_reads ho; have HCX := Aside0.mk hC_; have HCXc := Lib.hid hcX; have n0 := Aside0.mk (Kd.C_below HCE.out hb); have n1 := Aside0.mk (Kd.C_below HCV.out hb); have n2 := Aside0.mk (Kd.C_below HCO.out hb); have n3 := Aside0.mk ((hb.block w2.heap.size (blk_lt HK.out)).trans HK.out); have n4 := Aside0.mk (below_step HB.out hb); have mF := Aside0.mk (Kd.C_below HCF.out hb); clear HCF; have HCF := mF; clear mF; clear HCE HCV HCO HK HB; have HCE := n0; have HCV := n1; have HCO := n2; have HK := n3; have HB := n4; clear n0 n1 n2 n3 n4; clear q0 q1 q2; clear ho hb hC_ hcX))
    have q0 : w6.cell? ⟨w2.heap.size, 0, none⟩ = some (.slice AE E.length cE) := (blk_cell HK.out 0).trans rfl; have q1 : w6.cell? ⟨w2.heap.size, 1, none⟩ = some (.slice none 0 0) := (blk_cell HK.out 1).trans rfl; have q2 : w6.cell? ⟨w2.heap.size, 2, none⟩ = some (.slice AV V.length cV) := (blk_cell HK.out 2).trans rfl
    refine (oriellaw01_Ints.calls k AF cF b AX cX T1 true w6 HCF.out HCFc.out HCX.out HCXc.out HCf.out).mono ?_
    rintro e w7 ⟨rfl, hd⟩
    have hb := hd.below
    clear q0 q1 q2 HCX HCF hd
    have n0 := Aside0.mk (Kd.C_below HCE.out hb); have n1 := Aside0.mk (Kd.C_below HCV.out hb); have n2 := Aside0.mk (Kd.C_below HCO.out hb); have n3 := Aside0.mk ((hb.block w2.heap.size (blk_lt HK.out)).trans HK.out); have n4 := Aside0.mk (below_step HB.out hb); clear HCE HCV HCO HK HB; have HCE := n0; have HCV := n1; have HCO := n2; have HK := n3; have HB := n4; clear n0 n1 n2 n3 n4; clear hb
    have q0 : w7.cell? ⟨w2.heap.size, 0, none⟩ = some (.slice AE E.length cE) := (blk_cell HK.out 0).trans rfl; have q1 : w7.cell? ⟨w2.heap.size, 1, none⟩ = some (.slice none 0 0) := (blk_cell HK.out 1).trans rfl; have q2 : w7.cell? ⟨w2.heap.size, 2, none⟩ = some (.slice AV V.length cV) := (blk_cell HK.out 2).trans rfl
    go_wp2_with fail
    refine (graph_Spare.calls k AE cE E none 0 [] AV cV V AO cO O d w7 HCE.out HCEc.out (Kd.C_nil _ _) (Nat.le_refl _) HCV.out HCVc.out HCO.out HCOc.out HDf.out).mono ?_
    rintro e w8 ⟨v_, rfl, ho, hb⟩
    clear q0 q1 q2
    obtain ⟨AS, cS, rfl, hcS, hC_⟩ := Kd.R_reads ho
    have HCS := Aside0.mk hC_; have HCSc := Lib.hid hcS; clear hC_ hcS ho
    have n0 := Aside0.mk (Kd.C_below HCE.out hb); have n1 := Aside0.mk (Kd.C_below HCV.out hb); have n2 := Aside0.mk (Kd.C_below HCO.out hb); have n3 := Aside0.mk ((hb.block w2.heap.size (blk_lt HK.out)).trans HK.out); have n4 := Aside0.mk (below_step HB.out hb); clear HCE HCV HCO HK HB; have HCE := n0; have HCV := n1; have HCO := n2; have HK := n3; have HB := n4; clear n0 n1 n2 n3 n4; clear hb
    have q0 : w8.cell? ⟨w2.heap.size, 0, none⟩ = some (.slice AE E.length cE) := (blk_cell HK.out 0).trans rfl; have q1 : w8.cell? ⟨w2.heap.size, 1, none⟩ = some (.slice none 0 0) := (blk_cell HK.out 1).trans rfl; have q2 : w8.cell? ⟨w2.heap.size, 2, none⟩ = some (.slice AV V.length cV) := (blk_cell HK.out 2).trans rfl
    go_wp2_with (((with_reducible refine gate_dst (N := 23) rfl ?_); (try (refine gate_guard (by rfl) ?_; dsimp only)); refine Kd.R_lit (Kd.int .i64) _ 3 ?hg (N := 23) ?hd (xs := ([2] : List Int)) (inner := [.int .i64 2]) (ok := fun _ => True) (okp := fun _ => True) ?hr ?hp (fun _ hk => hk) trivial (Below.refl _ _) (Nat.le_refl _) (by simp) ?_; (case hd => rfl); (case hg => rfl); (case hr => first | (go_simp; done) | (go_simp; rfl)); (case hp => exact (Reps.one (show Kd.M (Kd.int .i64) _ _ _ 2 [.int .i64 2] from rfl) (Reps.none _ _))); intro v_ w9 ho hb hg_ hnew_; clear hg_ hnew_; rw [show ([2] : List Int) = _ from G2.out] at ho; obtain ⟨AY, cY, rfl, hcY, hC_⟩ := Kd.R_reads ho; have HCY := Aside0.mk hC_; have HCYc := Lib.hid hcY; have n0 := Aside0.mk (Kd.C_below HCE.out hb); have n1 := Aside0.mk (Kd.C_below HCV.out hb); have n2 := Aside0.mk (Kd.C_below HCO.out hb); have n3 := Aside0.mk ((hb.block w2.heap.size (blk_lt HK.out)).trans HK.out); have n4 := Aside0.mk (below_step HB.out hb); have mS := Aside0.mk (Kd.C_below HCS.out hb); clear HCS; have HCS := mS; clear mS; clear HCE HCV HCO HK HB; have HCE := n0; have HCV := n1; have HCO := n2; have HK := n3; have HB := n4; clear n0 n1 n2 n3 n4; clear q0 q1 q2; clear ho hb hC_ hcY))
    have q0 : w9.cell? ⟨w2.heap.size, 0, none⟩ = some (.slice AE E.length cE) := (blk_cell HK.out 0).trans rfl; have q1 : w9.cell? ⟨w2.heap.size, 1, none⟩ = some (.slice none 0 0) := (blk_cell HK.out 1).trans rfl; have q2 : w9.cell? ⟨w2.heap.size, 2, none⟩ = some (.slice AV V.length cV) := (blk_cell HK.out 2).trans rfl
    refine (oriellaw01_Ints.calls k AS cS d AY cY T2 true w9 HCS.out HCSc.out HCY.out HCYc.out HEf.out).mono ?_
    rintro e w10 ⟨rfl, hd⟩
    have hb := hd.below
    clear q0 q1 q2 HCY HCS hd
    have n0 := Aside0.mk (Kd.C_below HCE.out hb); have n1 := Aside0.mk (Kd.C_below HCV.out hb); have n2 := Aside0.mk (Kd.C_below HCO.out hb); have n3 := Aside0.mk ((hb.block w2.heap.size (blk_lt HK.out)).trans HK.out); have n4 := Aside0.mk (below_step HB.out hb); clear HCE HCV HCO HK HB; have HCE := n0; have HCV := n1; have HCO := n2; have HK := n3; have HB := n4; clear n0 n1 n2 n3 n4; clear hb
    have q0 : w10.cell? ⟨w2.heap.size, 0, none⟩ = some (.slice AE E.length cE) := (blk_cell HK.out 0).trans rfl; have q1 : w10.cell? ⟨w2.heap.size, 1, none⟩ = some (.slice none 0 0) := (blk_cell HK.out 1).trans rfl; have q2 : w10.cell? ⟨w2.heap.size, 2, none⟩ = some (.slice AV V.length cV) := (blk_cell HK.out 2).trans rfl
    go_wp2_with (((with_reducible refine gate_dst (N := 29) rfl ?_); (try (refine gate_guard (by rfl) ?_; dsimp only)); refine Kd.R_lit (Kd.int .i64) _ 3 ?hg (N := 29) ?hd (xs := ([0, 1, 2] : List Int)) (inner := [.int .i64 0, .int .i64 1, .int .i64 2]) (ok := fun _ => True) (okp := fun _ => True) ?hr ?hp (fun _ hk => hk) trivial (Below.refl _ _) (Nat.le_refl _) (by simp) ?_; (case hd => rfl); (case hg => rfl); (case hr => first | (go_simp; done) | (go_simp; rfl)); (case hp => exact (Reps.one (show Kd.M (Kd.int .i64) _ _ _ 0 [.int .i64 0] from rfl) (Reps.one (show Kd.M (Kd.int .i64) _ _ _ 1 [.int .i64 1] from rfl) (Reps.one (show Kd.M (Kd.int .i64) _ _ _ 2 [.int .i64 2] from rfl) (Reps.none _ _))))); intro v_ w11 ho hb hg_ hnew_; clear hg_ hnew_; rw [show ([0, 1, 2] : List Int) = _ from G3.out] at ho; obtain ⟨AZ, cZ, rfl, hcZ, hC_⟩ := Kd.R_reads ho; have HCZ := Aside0.mk hC_; have HCZc := Lib.hid hcZ; have n0 := Aside0.mk (Kd.C_below HCE.out hb); have n1 := Aside0.mk (Kd.C_below HCV.out hb); have n2 := Aside0.mk (Kd.C_below HCO.out hb); have n3 := Aside0.mk ((hb.block w2.heap.size (blk_lt HK.out)).trans HK.out); have n4 := Aside0.mk (below_step HB.out hb); clear HCE HCV HCO HK HB; have HCE := n0; have HCV := n1; have HCO := n2; have HK := n3; have HB := n4; clear n0 n1 n2 n3 n4; clear q0 q1 q2; clear ho hb hC_ hcZ))
    have q0 : w11.cell? ⟨w2.heap.size, 0, none⟩ = some (.slice AE E.length cE) := (blk_cell HK.out 0).trans rfl; have q1 : w11.cell? ⟨w2.heap.size, 1, none⟩ = some (.slice none 0 0) := (blk_cell HK.out 1).trans rfl; have q2 : w11.cell? ⟨w2.heap.size, 2, none⟩ = some (.slice AV V.length cV) := (blk_cell HK.out 2).trans rfl
    refine (graph_Carries.calls k AE cE E none 0 [] AV cV V AE cE E none 0 [] AV cV V AZ cZ T3 true w11 HCE.out HCEc.out (Kd.C_nil _ _) (Nat.le_refl _) HCV.out HCVc.out HCE.out HCEc.out (Kd.C_nil _ _) (Nat.le_refl _) HCV.out HCVc.out HCZ.out HCZc.out HP.out).mono ?_
    rintro e w12 ⟨rfl, hb⟩
    clear q0 q1 q2 HCZ
    have n0 := Aside0.mk (Kd.C_below HCE.out hb); have n1 := Aside0.mk (Kd.C_below HCV.out hb); have n2 := Aside0.mk (Kd.C_below HCO.out hb); have n3 := Aside0.mk ((hb.block w2.heap.size (blk_lt HK.out)).trans HK.out); have n4 := Aside0.mk (below_step HB.out hb); clear HCE HCV HCO HK HB; have HCE := n0; have HCV := n1; have HCO := n2; have HK := n3; have HB := n4; clear n0 n1 n2 n3 n4; clear hb
    have q0 : w12.cell? ⟨w2.heap.size, 0, none⟩ = some (.slice AE E.length cE) := (blk_cell HK.out 0).trans rfl; have q1 : w12.cell? ⟨w2.heap.size, 1, none⟩ = some (.slice none 0 0) := (blk_cell HK.out 1).trans rfl; have q2 : w12.cell? ⟨w2.heap.size, 2, none⟩ = some (.slice AV V.length cV) := (blk_cell HK.out 2).trans rfl
    go_wp2_with (((with_reducible refine gate_dst (N := 35) rfl ?_); (try (refine gate_guard (by rfl) ?_; dsimp only)); refine Kd.R_lit (Kd.int .i64) _ 3 ?hg (N := 35) ?hd (xs := ([2, 1, 0] : List Int)) (inner := [.int .i64 2, .int .i64 1, .int .i64 0]) (ok := fun _ => True) (okp := fun _ => True) ?hr ?hp (fun _ hk => hk) trivial (Below.refl _ _) (Nat.le_refl _) (by simp) ?_; (case hd => rfl); (case hg => rfl); (case hr => first | (go_simp; done) | (go_simp; rfl)); (case hp => exact (Reps.one (show Kd.M (Kd.int .i64) _ _ _ 2 [.int .i64 2] from rfl) (Reps.one (show Kd.M (Kd.int .i64) _ _ _ 1 [.int .i64 1] from rfl) (Reps.one (show Kd.M (Kd.int .i64) _ _ _ 0 [.int .i64 0] from rfl) (Reps.none _ _))))); intro v_ w13 ho hb hg_ hnew_; clear hg_ hnew_; rw [show ([2, 1, 0] : List Int) = _ from G4.out] at ho; obtain ⟨AU, cU, rfl, hcU, hC_⟩ := Kd.R_reads ho; have HCU := Aside0.mk hC_; have HCUc := Lib.hid hcU; have n0 := Aside0.mk (Kd.C_below HCE.out hb); have n1 := Aside0.mk (Kd.C_below HCV.out hb); have n2 := Aside0.mk (Kd.C_below HCO.out hb); have n3 := Aside0.mk ((hb.block w2.heap.size (blk_lt HK.out)).trans HK.out); have n4 := Aside0.mk (below_step HB.out hb); clear HCE HCV HCO HK HB; have HCE := n0; have HCV := n1; have HCO := n2; have HK := n3; have HB := n4; clear n0 n1 n2 n3 n4; clear q0 q1 q2; clear ho hb hC_ hcU))
    refine (graph_Carries.calls k AE cE E none 0 [] AV cV V AE cE E none 0 [] AV cV V AU cU T4 false w13 HCE.out HCEc.out (Kd.C_nil _ _) (Nat.le_refl _) HCV.out HCVc.out HCE.out HCEc.out (Kd.C_nil _ _) (Nat.le_refl _) HCV.out HCVc.out HCU.out HCUc.out HQ.out).mono ?_
    rintro e w14 ⟨rfl, hb⟩
    clear HCU
    have n0 := Aside0.mk (Kd.C_below HCE.out hb); have n1 := Aside0.mk (Kd.C_below HCV.out hb); have n2 := Aside0.mk (Kd.C_below HCO.out hb); have n3 := Aside0.mk ((hb.block w2.heap.size (blk_lt HK.out)).trans HK.out); have n4 := Aside0.mk (below_step HB.out hb); clear HCE HCV HCO HK HB; have HCE := n0; have HCV := n1; have HCO := n2; have HK := n3; have HB := n4; clear n0 n1 n2 n3 n4; clear hb
    go_wp2
    go_ret
    exact ⟨rfl, HB.out⟩
  · rw [if_neg hall] at h
    cases h



/-! ### slices_Clone_int_int: function 67 -/
def slices_Clone_int_int.f (l : List Int) : Option (List Int) := if l.length ≤ 1000000000000 then some l else none
theorem clone_info : (Try.prog.info? 3).map (fun i => (i.zero, i.size, i.bytes)) = some (some (.int .i64 0), 1, 8) := by kernel_rfl
set_option maxHeartbeats 2000000 in
set_option maxRecDepth 100000 in
theorem slices_Clone_int_int.calls (A0 : Option Addr) (c0 : Nat) (l0 : List Int) (r : List Int) (w : World) (hr0 : Kd.C (Kd.int .i64) w A0 l0.length l0) (hc0 : l0.length ≤ c0) (h : slices_Clone_int_int.f l0 = some r) :
    Calls Try.prog 67 #[.slice A0 l0.length c0] w fun e w' => ∃ v0_ : Value, e = .returned (v0_) ∧ Kd.R (Kd.int .i64) 3 w' w.heap.size (fun _ => True) v0_ r ∧ Below w.heap.size w w' := by
  have hu24 := Try.underlying24
  unfold slices_Clone_int_int.f at h
  by_cases hok : l0.length ≤ 1000000000000
  · rw [if_pos hok] at h
    obtain rfl := Option.some.inj h
    clear h
    cases A0 with
    | none =>
      have hl : l0 = [] := by
        cases l0 with
        | nil => rfl
        | cons x t =>
          obtain ⟨ad, e, _⟩ := Kd.at_int hr0 0 (by omega) (by simp)
          cases e
      subst hl
      clear hr0
      have hnil : ∀ w : World, (binOp .eql 24 (.slice none 0 c0) (.slice none 0 0)).run Try.prog w = .ok (.bool true) w := fun w => Lib.run_eql_slice_nil w 24 3 none 0 c0 0 0 hu24
      go_enter Try.func67, Try.ntmps67
      go_wp2
      go_ret
      exact ⟨_, rfl, Kd.R_nil _ _ _ _ _, Below.refl _ _⟩
    | some ad =>
      have HC := Aside0.mk (Kd.C_alloc hr0 (.cells #[] 3))
      clear hr0
      have HO := Aside0.mk (Kd.R_of_own (enc := Value.int .i64) (h1 := fun _ => rfl) (ok := fun _ => True) (own_lit w w.heap.size 3 .i64 [] (Nat.le_refl _) (by simp)) (fun _ _ => trivial))
      have HB := Aside0.mk (below_alloc (Below.refl w.heap.size w) (.cells #[] 3))
      obtain ⟨n, hn⟩ : ∃ n, l0.length = n := ⟨_, rfl⟩
      rw [hn] at hok HC hc0 ⊢
      clear hn
      have hnil : ∀ w : World, (binOp .eql 24 (.slice (some ad) n c0) (.slice none 0 0)).run Try.prog w = .ok (.bool false) w := fun w => Lib.run_eql_slice_nil w 24 3 (some ad) n c0 0 0 hu24
      go_enter Try.func67, Try.ntmps67
      go_wp2_with (at_builtin; refine Kd.R_append_rows (Kd.int .i64) (w0 := w) w.heap.size rfl (.tmp 5) (.tmp 6) 24 3 (.int .i64 0) 8 rfl Try.underlying24 clone_info rfl (by decide) (by omega) _ [] l0 _ _ _ (fun _ => True) (fun _ => False) rfl rfl HO.out HC.out (fun _ _ h => h) (fun _ h => h.elim) (fun _ _ => trivial) HB.out HB.out.size ?aL ?hk)
      case aL => simp; omega
      case hk =>
        intro v1 w1 ho hb _ _
        have HO1 := Aside0.mk ho
        have HB1 := Aside0.mk hb
        clear ho hb
        go_wp2
        go_ret
        exact ⟨v1, rfl, HO1.out, HB1.out⟩
  · rw [if_neg hok] at h
    cases h



/-! ### graph_Then: function 36 -/
def thenX (k : List Int) (x : Int) : Int := if inB x k.length = true then rd k x else -1
def graph_Then.f (m k : List Int) : Option (List Int) := if m.length ≤ 1000000000000 then some (m.map (thenX k)) else none
/-- The row after so many rounds. -/
def thenS (m k : List Int) (j : Nat) : List Int := (m.take j).map (thenX k) ++ m.drop j
theorem thenS_len (m k : List Int) (j : Nat) : (thenS m k j).length = m.length := by
  unfold thenS
  simp
  omega
theorem thenS_rd (m k : List Int) (j : Nat) (h : j < m.length) : rd (thenS m k j) (j : Int) = rd m (j : Int) := by
  show (thenS m k j).getD j 0 = m.getD j 0
  unfold thenS
  rw [List.getD_eq_getElem?_getD, List.getD_eq_getElem?_getD, List.getElem?_append_right (by simp; omega)]
  simp
  congr 2
  omega
theorem thenS_set (m k : List Int) (j : Nat) (h : j < m.length) : (thenS m k j).set j (thenX k (rd m (j : Int))) = thenS m k (j + 1) := by
  have hd := drop_int m j h
  unfold thenS
  rw [List.set_append_right _ _ (by simp; omega)]
  have e : j - ((m.take j).map (thenX k)).length = 0 := by simp; omega
  rw [e, hd, List.set_cons_zero, List.take_add_one, List.getElem?_eq_getElem h, List.map_append, List.append_assoc]
  congr 1
  have : rd m (j : Int) = m[j] := by
    show m.getD j 0 = _
    rw [List.getD_eq_getElem?_getD, List.getElem?_eq_getElem h]
    rfl
  rw [this]
  rfl
theorem then_info : (Try.prog.info? 3).map (·.size) = some 1 := by kernel_rfl
set_option maxHeartbeats 4000000 in
set_option maxRecDepth 100000 in
theorem graph_Then.calls (A0 : Option Addr) (c0 : Nat) (l0 : List Int) (A1 : Option Addr) (c1 : Nat) (l1 : List Int) (r : List Int) (w : World) (hr0 : Kd.C (Kd.int .i64) w A0 l0.length l0) (hc0 : l0.length ≤ c0) (hr1 : Kd.C (Kd.int .i64) w A1 l1.length l1) (hc1 : l1.length ≤ c1) (h : graph_Then.f l0 l1 = some r) :
    Calls Try.prog 36 #[.slice A0 l0.length c0, .slice A1 l1.length c1] w fun e w' => ∃ v0_ : Value, e = .returned (v0_) ∧ Kd.R (Kd.int .i64) 3 w' w.heap.size (fun _ => True) v0_ r ∧ Below w.heap.size w w' := by
  have hu24 := Try.underlying24
  unfold graph_Then.f at h
  by_cases hok : l0.length ≤ 1000000000000
  · rw [if_pos hok] at h
    obtain rfl := Option.some.inj h
    clear h
    have HC1 := Aside0.mk hr1
    have hmx1 := Kd.C_max hr1
    have HCL := Aside0.mk (slices_Clone_int_int.calls A0 c0 l0 l0 w hr0 hc0 (by unfold slices_Clone_int_int.f; rw [if_pos hok]))
    clear hr0 hr1
    go_enter Try.func36, Try.ntmps36
    go_wp2_with fail
    refine HCL.out.mono ?_
    rintro e w1 ⟨v0, rfl, ho, hb⟩
    have HO0 := Aside0.mk ho
    have HB0 := Aside0.mk hb
    clear ho hb HCL
    by_cases hz : l0.length = 0
    · have hl : l0 = [] := List.length_eq_zero_iff.1 hz
      subst hl
      obtain ⟨p, cap, rfl⟩ := Kd.R_slice HO0.out
      clear hz
      go_wp2
      go_loopg [6, 7, 12] 0 (fun gg _ _ v12 wr => v12 = .int .i64 (0 : Nat) ∧ wr = w1)
      case atStart => exact ⟨by first | rfl | go_num, rfl⟩
      case round =>
        obtain ⟨rfl, rfl⟩ := hrel
        have hltz : ¬ ((0 : Nat) : Int) < ((0 : Nat) : Int) := by omega
        go_wp2
        go_ret
        exact ⟨_, rfl, HO0.out, HB0.out⟩
    · obtain ⟨g, cap, hv, hbg, hgw, _⟩ := Kd.R_form HO0.out (by omega)
      subst hv
      obtain ⟨n, hn⟩ : ∃ n, l0.length = n := ⟨_, rfl⟩
      rw [hn] at hok HO0 hz
      have HN := Lib.hid hn
      have HO1 := Aside0.mk (show Kd.R (Kd.int .i64) 3 w1 w.heap.size (fun _ => True) (.slice (some ⟨g, 0, none⟩) n cap) (thenS l0 l1 0) from HO0.out)
      rw [hn]
      clear hn hgw HO0
      have hnn : n ≤ 9223372036854775807 := by omega
      go_wp2
      go_loopg [6, 7, 12] n (fun gg _ _ v12 wr => ∃ j : Nat, v12 = .int .i64 j ∧ j ≤ n ∧ n - j ≤ gg ∧ Aside0 (Kd.R (Kd.int .i64) 3 wr w.heap.size (fun _ => True) (.slice (some ⟨g, 0, none⟩) n cap) (thenS l0 l1 j)) ∧ Aside0 (Below w.heap.size w wr))
      case atStart => exact ⟨0, by first | rfl | go_num, Nat.zero_le _, by omega, HO1, HB0⟩
      case round =>
        clear HO1 HB0
        obtain ⟨j, rfl, hj, hgj, HO, HB⟩ := hrel
        by_cases hlt : j < n
        · have hltz : (j : Int) < (n : Int) := by omega
          have hsl := thenS_len l0 l1 j
          obtain ⟨ad, ead, hx0⟩ := Kd.at_int (Kd.R_reads' HO.out).2.2 (j : Int) (by omega) (by rw [hsl, HN.out]; omega)
          cases ead
          rw [Int.toNat_natCast, add_plain, thenS_rd l0 l1 j (by rw [HN.out]; exact hlt)] at hx0
          have hset := Lib.hid (thenS_set l0 l1 j (by rw [HN.out]; exact hlt))
          obtain ⟨x, hx⟩ : ∃ x, rd l0 (j : Int) = x := ⟨_, rfl⟩
          rw [hx] at hx0 hset
          obtain ⟨cc, hcl, -, hcc, -⟩ := Kd.R_elem HO.out 0 (j : Int) (by omega) hltz
          have HCL := Aside0.mk hcl
          have HCC := Aside0.mk hcc
          clear hx hsl hcl hcc
          have hM : ∀ y : Int, (Kd.int .i64).M wr w.heap.size (fun _ => False) y (cc.take 0 ++ [.int .i64 y] ++ cc.drop (0 + [Value.int .i64 y].length)) := by
            intro y
            have e1 : cc.take 0 ++ [Value.int .i64 y] ++ cc.drop (0 + [Value.int .i64 y].length) = [.int .i64 y] := by
              rw [List.drop_of_length_le (by rw [HCL.out]; exact Nat.le_refl _)]; rfl
            rw [e1]
            exact rfl
          have HM := Aside0.mk hM
          clear hM
          go_wp2_with (refine Kd.R_store (Kd.int .i64) (w0 := w) w.heap.size rfl rfl 3 (.tmp 19) (.const (.int .i64 (-1))) rfl 3 (j : Int) 0 (thenS l0 l1 j) (-1) (.int .i64 (-1)) [.int .i64 (-1)] cc (fun _ => True) (fun _ => False) rfl (by show _ = (j : Int).toNat * 1 + 0; simp) rfl rfl then_info (by simp [Value.oneCell']) HO.out (by omega) hltz HCL.out HCC.out (Nat.le_refl _) (HM.out (-1)) (fun _ h_ => h_.elim) HB.out ?hk)
          case hk =>
            intro w3 hr3 hb3 hg3
            have HR3 := Aside0.mk hr3
            have HB3 := Aside0.mk hb3
            clear hr3 hb3 hg3 HM HCC HCL hx0
            cases hi : inB x l1.length with
            | false =>
              have HI := Aside0.mk (in_plain x l1.length false w3 hi)
              have HX := Lib.hid (show (thenS l0 l1 j).set (j : Int).toNat (-1) = thenS l0 l1 (j + 1) by
                have := hset.out
                unfold thenX at this
                rw [if_neg (by rw [hi]; simp)] at this
                exact this)
              clear hi hset
              go_wp2_with fail
              refine HI.out.mono ?_
              rintro e w4 ⟨rfl, hd⟩
              obtain ⟨nd, rfl⟩ := hd.out
              clear hd HI
              go_wp2
              go_roundg (n - (j + 1))
              case measure => omega
              case rel => exact ⟨j + 1, by go_num, by omega, Nat.le_refl _, ⟨by rw [← HX.out]; exact Kd.R_drewN HR3.out _⟩, ⟨pw_below_drewN HB3.out _⟩⟩
            | true =>
              have HI := Aside0.mk (in_plain x l1.length true w3 hi)
              obtain ⟨hi0, hi1⟩ := inB_true hi
              have HX := Lib.hid (show ((thenS l0 l1 j).set (j : Int).toNat (-1)).set (j : Int).toNat (rd l1 x) = thenS l0 l1 (j + 1) by
                have := hset.out
                unfold thenX at this
                rw [if_pos hi] at this
                rw [List.set_set]
                exact this)
              obtain ⟨ad1, ead1, hy0⟩ := Kd.at_int (Kd.C_below HC1.out HB3.out) x hi0 hi1
              cases ead1
              clear hi hset
              generalize rd l1 x = y at *
              have hl2 : ((thenS l0 l1 j).set (j : Int).toNat (-1)).length = n := by rw [List.length_set, thenS_len, HN.out]
              obtain ⟨cc, hcl, -, hcc, -⟩ := Kd.R_elem HR3.out 0 (j : Int) (by omega) hltz
              have HCL := Aside0.mk hcl
              have HCC := Aside0.mk hcc
              clear hcl hcc hl2
              go_wp2_with fail
              refine HI.out.mono ?_
              rintro e w4 ⟨rfl, hd⟩
              obtain ⟨nd, rfl⟩ := hd.out
              clear hd HI
              have HM : Aside0 ((Kd.int .i64).M (w3.drewN nd) w.heap.size (fun _ => False) y (cc.take 0 ++ [.int .i64 y] ++ cc.drop (0 + [Value.int .i64 y].length))) := by
                have e1 : cc.take 0 ++ [Value.int .i64 y] ++ cc.drop (0 + [Value.int .i64 y].length) = [.int .i64 y] := by
                  rw [List.drop_of_length_le (by rw [HCL.out]; exact Nat.le_refl _)]; rfl
                rw [e1]
                exact ⟨rfl⟩
              go_wp2_with (refine Kd.R_store (Kd.int .i64) (w0 := w) w.heap.size rfl rfl 3 (.tmp 30) (.tmp 29) rfl 3 (j : Int) 0 ((thenS l0 l1 j).set (j : Int).toNat (-1)) y (.int .i64 y) [.int .i64 y] cc (fun _ => True) (fun _ => False) rfl (by show _ = (j : Int).toNat * 1 + 0; simp) rfl rfl then_info (by simp [Value.oneCell']) (Kd.R_drewN HR3.out nd) (by omega) hltz HCL.out HCC.out (Nat.le_refl _) HM.out (fun _ h_ => h_.elim) (pw_below_drewN HB3.out nd) ?hk2)
              case hk2 =>
                intro w5 hr5 hb5 hg5
                have HR5 := Aside0.mk hr5
                have HB5 := Aside0.mk hb5
                clear hr5 hb5 hg5
                go_wp2
                go_roundg (n - (j + 1))
                case measure => omega
                case rel => exact ⟨j + 1, by go_num, by omega, Nat.le_refl _, ⟨by rw [← HX.out]; exact HR5.out⟩, HB5⟩
        · have hltz : ¬ (j : Int) < (n : Int) := by omega
          obtain rfl : n = j := by omega
          go_wp2
          go_ret
          refine ⟨_, rfl, ?_, HB.out⟩
          have e : thenS l0 l1 n = l0.map (thenX l1) := by
            unfold thenS
            rw [List.take_of_length_le (by rw [HN.out]; exact Nat.le_refl _), List.drop_of_length_le (by rw [HN.out]; exact Nat.le_refl _), List.append_nil]
          rw [← e]
          exact HO.out
  · rw [if_neg hok] at h
    cases h



-- NOT PRINTED: function 9 (oriellaw15_GraphOn)

end Go.Proofs.Ythgjieigpfcekaa.QG
