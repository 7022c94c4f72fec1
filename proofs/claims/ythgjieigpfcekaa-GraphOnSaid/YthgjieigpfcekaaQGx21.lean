/- The law GraphOn's own function: walked by hand; what its callees tell makes each test come out. -/
import Derived.Test.YthgjieigpfcekaaGrOn
import Derived.Test.YthgjieigpfcekaaGrAlive
import Derived.Test.YthgjieigpfcekaaQGx2
import Derived.Test.YthgjieigpfcekaaQGx2
namespace Go.Proofs.Ythgjieigpfcekaa.QG
open Go.RowKit Go.Proofs.YthgjieigpfcekaaW.PrintWords Go.Proofs.YthgjieigpfcekaaW.PrintLast Go.Proofs.YthgjieigpfcekaaW.PrintMore Go.Proofs.Ythgjieigpfcekaa.Gr
set_option linter.unusedVariables false
set_option linter.unusedSimpArgs false
def oriellaw15_GraphOn.f (k : Nat) (Eg : List Int) (Lg : List PP) (Vg Eh : List Int) (Lh : List PP) (Vh Ei : List Int) (Li : List PP) (Vi M K : List Int) : Option Bool := if M.all okI = true ∧ K.all okI = true ∧ oriellaw15_alive.f k = some true then some true else none
theorem few_tells (E : List Int) (L : List PP) (V : List Int) : ∃ b, oriellaw15_few.f E L V = some b ∧ (b = true → E.length ≤ 60 ∧ L.length ≤ 40) := by
  unfold oriellaw15_few.f
  (repeat' split) <;> first | exact ⟨_, rfl, fun h => by cases h⟩ | exact ⟨_, rfl, fun h => by have := of_decide_eq_true h; omega⟩
set_option maxHeartbeats 8000000 in
set_option maxRecDepth 100000 in
theorem oriellaw15_GraphOn.calls (k : Nat) (A0_0 : Option Addr) (c0_0 : Nat) (l0_0 : List Int) (A0_1 : Option Addr) (c0_1 : Nat) (l0_1 : List S34) (A0_2 : Option Addr) (c0_2 : Nat) (l0_2 : List Int) (A1_0 : Option Addr) (c1_0 : Nat) (l1_0 : List Int) (A1_1 : Option Addr) (c1_1 : Nat) (l1_1 : List S34) (A1_2 : Option Addr) (c1_2 : Nat) (l1_2 : List Int) (A2_0 : Option Addr) (c2_0 : Nat) (l2_0 : List Int) (A2_1 : Option Addr) (c2_1 : Nat) (l2_1 : List S34) (A2_2 : Option Addr) (c2_2 : Nat) (l2_2 : List Int) (A3 : Option Addr) (c3 : Nat) (l3 : List Int) (A4 : Option Addr) (c4 : Nat) (l4 : List Int) (r : Bool) (w : World)
    (hr0_0 : Kd.C (Kd.int .i64) w A0_0 l0_0.length l0_0) (hc0_0 : l0_0.length ≤ c0_0) (hr0_1 : Kd.C k34 w A0_1 l0_1.length l0_1) (hc0_1 : l0_1.length ≤ c0_1) (hr0_2 : Kd.C (Kd.int .i64) w A0_2 l0_2.length l0_2) (hc0_2 : l0_2.length ≤ c0_2) (hr1_0 : Kd.C (Kd.int .i64) w A1_0 l1_0.length l1_0) (hc1_0 : l1_0.length ≤ c1_0) (hr1_1 : Kd.C k34 w A1_1 l1_1.length l1_1) (hc1_1 : l1_1.length ≤ c1_1) (hr1_2 : Kd.C (Kd.int .i64) w A1_2 l1_2.length l1_2) (hc1_2 : l1_2.length ≤ c1_2) (hr2_0 : Kd.C (Kd.int .i64) w A2_0 l2_0.length l2_0) (hc2_0 : l2_0.length ≤ c2_0) (hr2_1 : Kd.C k34 w A2_1 l2_1.length l2_1) (hc2_1 : l2_1.length ≤ c2_1) (hr2_2 : Kd.C (Kd.int .i64) w A2_2 l2_2.length l2_2) (hc2_2 : l2_2.length ≤ c2_2) (hr3 : Kd.C (Kd.int .i64) w A3 l3.length l3) (hc3 : l3.length ≤ c3) (hr4 : Kd.C (Kd.int .i64) w A4 l4.length l4) (hc4 : l4.length ≤ c4)
    (h : oriellaw15_GraphOn.f k l0_0 l0_1 l0_2 l1_0 l1_1 l1_2 l2_0 l2_1 l2_2 l3 l4 = some r) :
    Calls Try.prog 9 #[.agg #[.slice A0_0 l0_0.length c0_0, .slice A0_1 l0_1.length c0_1, .slice A0_2 l0_2.length c0_2], .agg #[.slice A1_0 l1_0.length c1_0, .slice A1_1 l1_1.length c1_1, .slice A1_2 l1_2.length c1_2], .agg #[.slice A2_0 l2_0.length c2_0, .slice A2_1 l2_1.length c2_1, .slice A2_2 l2_2.length c2_2], .slice A3 l3.length c3, .slice A4 l4.length c4] w fun e w' => e = .returned (.bool r) ∧ Below w.heap.size w w' := by
  have hu51 := Try.underlying51
  have hu24 := Try.underlying24
  have hu22 := Try.underlying22
  have hu34 := Try.underlying34
  unfold oriellaw15_GraphOn.f at h
  by_cases hall : l3.all okI = true ∧ l4.all okI = true ∧ oriellaw15_alive.f k = some true
  · rw [if_pos hall] at h
    obtain rfl := Option.some.inj h
    clear h
    obtain ⟨hok3, hok4, hal⟩ := hall
    have HAL := Aside0.mk (fun W => oriellaw15_alive.calls k true W hal)
    clear hal
    obtain ⟨f0, hf0, hfb0⟩ := few_tells l0_0 l0_1 l0_2
    obtain ⟨f1, hf1, hfb1⟩ := few_tells l1_0 l1_1 l1_2
    obtain ⟨f2, hf2, hfb2⟩ := few_tells l2_0 l2_1 l2_2
    have HF0 := Aside0.mk (fun (W : World) (hb : Below w.heap.size w W) => oriellaw15_few.calls A0_0 c0_0 l0_0 A0_1 c0_1 l0_1 A0_2 c0_2 l0_2 f0 W (Kd.C_below hr0_0 hb) hc0_0 (Kd.C_below hr0_1 hb) hc0_1 (Kd.C_below hr0_2 hb) hc0_2 hf0)
    have HF1 := Aside0.mk (fun (W : World) (hb : Below w.heap.size w W) => oriellaw15_few.calls A1_0 c1_0 l1_0 A1_1 c1_1 l1_1 A1_2 c1_2 l1_2 f1 W (Kd.C_below hr1_0 hb) hc1_0 (Kd.C_below hr1_1 hb) hc1_1 (Kd.C_below hr1_2 hb) hc1_2 hf1)
    have HF2 := Aside0.mk (fun (W : World) (hb : Below w.heap.size w W) => oriellaw15_few.calls A2_0 c2_0 l2_0 A2_1 c2_1 l2_1 A2_2 c2_2 l2_2 f2 W (Kd.C_below hr2_0 hb) hc2_0 (Kd.C_below hr2_1 hb) hc2_1 (Kd.C_below hr2_2 hb) hc2_2 hf2)
    clear hf0 hf1 hf2
    have HCA := Aside0.mk (fun (h1 : l0_1.length ≤ 1000000) (h2 : l3.length ≤ 16777216) => show ∀ (W : World) (hb : Below w.heap.size w W), Calls Try.prog 35 #[.agg #[.slice A0_0 l0_0.length c0_0, .slice A0_1 l0_1.length c0_1, .slice A0_2 l0_2.length c0_2], .agg #[.slice A1_0 l1_0.length c1_0, .slice A1_1 l1_1.length c1_1, .slice A1_2 l1_2.length c1_2], .slice A3 l3.length c3] W fun e w' => e = .returned (.bool (carB l0_0 l0_1 l1_0 l1_1 l3)) ∧ Below W.heap.size W w' from fun W hb => by
      obtain ⟨K1, hK1⟩ := Ev.rounds (carries_ev l0_0 l0_1 l0_2 l1_0 l1_1 l1_2 l3 h1 hok3 h2)
      exact graph_Carries.calls K1 A0_0 c0_0 l0_0 A0_1 c0_1 l0_1 A0_2 c0_2 l0_2 A1_0 c1_0 l1_0 A1_1 c1_1 l1_1 A1_2 c1_2 l1_2 A3 c3 l3 _ W (Kd.C_below hr0_0 hb) hc0_0 (Kd.C_below hr0_1 hb) hc0_1 (Kd.C_below hr0_2 hb) hc0_2 (Kd.C_below hr1_0 hb) hc1_0 (Kd.C_below hr1_1 hb) hc1_1 (Kd.C_below hr1_2 hb) hc1_2 (Kd.C_below hr3 hb) hc3 hK1)
    have HCB := Aside0.mk (fun (h1 : l1_1.length ≤ 1000000) (h2 : l4.length ≤ 16777216) => show ∀ (W : World) (hb : Below w.heap.size w W), Calls Try.prog 35 #[.agg #[.slice A1_0 l1_0.length c1_0, .slice A1_1 l1_1.length c1_1, .slice A1_2 l1_2.length c1_2], .agg #[.slice A2_0 l2_0.length c2_0, .slice A2_1 l2_1.length c2_1, .slice A2_2 l2_2.length c2_2], .slice A4 l4.length c4] W fun e w' => e = .returned (.bool (carB l1_0 l1_1 l2_0 l2_1 l4)) ∧ Below W.heap.size W w' from fun W hb => by
      obtain ⟨K1, hK1⟩ := Ev.rounds (carries_ev l1_0 l1_1 l1_2 l2_0 l2_1 l2_2 l4 h1 hok4 h2)
      exact graph_Carries.calls K1 A1_0 c1_0 l1_0 A1_1 c1_1 l1_1 A1_2 c1_2 l1_2 A2_0 c2_0 l2_0 A2_1 c2_1 l2_1 A2_2 c2_2 l2_2 A4 c4 l4 _ W (Kd.C_below hr1_0 hb) hc1_0 (Kd.C_below hr1_1 hb) hc1_1 (Kd.C_below hr1_2 hb) hc1_2 (Kd.C_below hr2_0 hb) hc2_0 (Kd.C_below hr2_1 hb) hc2_1 (Kd.C_below hr2_2 hb) hc2_2 (Kd.C_below hr4 hb) hc4 hK1)
    have HTH := Aside0.mk (fun (h1 : l3.length ≤ 1000000000000) (W : World) (hb : Below w.heap.size w W) => graph_Then.calls A3 c3 l3 A4 c4 l4 (l3.map (thenX l4)) W (Kd.C_below hr3 hb) hc3 (Kd.C_below hr4 hb) hc4 (by unfold graph_Then.f; rw [if_pos h1]))
    have HLK := Aside0.mk (fun (h1 : l2_1.length ≤ 1000) => show ∀ (W : World) (hb : Below w.heap.size w W) (a b : Int), linkB l2_1 a b = true → Calls Try.prog 22 #[.slice A2_1 l2_1.length c2_1, .int .i64 a, .int .i64 b] W fun e w' => e = .returned (.bool true) ∧ Below W.heap.size W w' from fun W hb a b hl => by
      obtain ⟨K1, hK1⟩ := Ev.rounds (linked_ev l2_1 h1 a b)
      rw [hl] at hK1
      exact orielref12_Linked.calls K1 A2_1 c2_1 l2_1 a b true W (Kd.C_below hr2_1 hb) hc2_1 hK1)
    have HE0 := Aside0.mk hr0_0
    have HL0 := Aside0.mk hr0_1
    have HE2 := Aside0.mk hr2_0
    clear hr0_0 hr0_1 hr0_2 hr1_0 hr1_1 hr1_2 hr2_0 hr2_1 hr2_2 hr3 hr4 hok3 hok4 hc0_0 hc0_1 hc0_2 hc1_0 hc1_1 hc1_2 hc2_0 hc2_1 hc2_2 hc3 hc4
    have HQ0 := Lib.hid hfb0
    have HQ2 := Lib.hid hfb2
    have HQ1 := Lib.hid hfb1
    clear hfb0 hfb1 hfb2
    generalize Value.slice A0_2 l0_2.length c0_2 = s0 at *
    generalize Value.slice A1_2 l1_2.length c1_2 = s1 at *
    generalize Value.slice A2_2 l2_2.length c2_2 = s2 at *
    obtain ⟨nE0, hnE0⟩ : ∃ n, l0_0.length = n := ⟨_, rfl⟩
    obtain ⟨nL0, hnL0⟩ : ∃ n, l0_1.length = n := ⟨_, rfl⟩
    obtain ⟨nE1, hnE1⟩ : ∃ n, l1_0.length = n := ⟨_, rfl⟩
    obtain ⟨nL1, hnL1⟩ : ∃ n, l1_1.length = n := ⟨_, rfl⟩
    obtain ⟨nE2, hnE2⟩ : ∃ n, l2_0.length = n := ⟨_, rfl⟩
    obtain ⟨nL2, hnL2⟩ : ∃ n, l2_1.length = n := ⟨_, rfl⟩
    obtain ⟨n3, hn3⟩ : ∃ n, l3.length = n := ⟨_, rfl⟩
    obtain ⟨n4, hn4⟩ : ∃ n, l4.length = n := ⟨_, rfl⟩
    rw [hnE0, hnL0] at HF0 HQ0 HCA
    rw [hnE1, hnL1] at HF1 HQ1 HCB
    rw [hnE2, hnL2] at HF2 HQ2
    rw [hnL2] at HLK
    rw [hnE1, hnL1, hn3] at HCA
    rw [hnE2, hnL2, hn4] at HCB
    rw [hn3, hn4] at HTH
    rw [hnE0, hnL0, hnE1, hnL1, hnE2, hnL2, hn3, hn4]
    have HNE0 := Lib.hid hnE0
    have HNL0 := Lib.hid hnL0
    have HNE2 := Lib.hid hnE2
    have HN3 := Lib.hid hn3
    clear hnE0 hnL0 hnE1 hnL1 hnE2 hnL2 hn3 hn4
    cases f0 with
    | false =>
      go_enter Try.func9, Try.ntmps9
      have HB := Aside0.mk (Below.refl w.heap.size w)
      go_wp2_with (first | ((with_reducible refine gate_dst (N := 5) rfl ?_); refine box_event ?hg (N := 5) ?hd (cs := #[.slice A0_0 nE0 c0_0, .slice A0_1 nL0 c0_1, s0]) (t := 51) ?hr ?_; (case hd => rfl); (case hg => rfl); (case hr => first | (go_simp; done) | (go_simp; rfl)); intro b0 hg0 wb0 hbox hb; have BK0 := Aside0.mk hbox; clear hbox; have HB_ := Aside0.mk (below_step HB.out hb); clear HB; have HB := HB_; clear HB_; clear hg0 hb) | ((with_reducible refine gate_dst (N := 6) rfl ?_); refine box_event ?hg (N := 6) ?hd (cs := #[.slice A1_0 nE1 c1_0, .slice A1_1 nL1 c1_1, s1]) (t := 51) ?hr ?_; (case hd => rfl); (case hg => rfl); (case hr => first | (go_simp; done) | (go_simp; rfl)); intro b1 hg1 wb1 hbox hb; have BK1 := Aside0.mk hbox; clear hbox; have HB_ := Aside0.mk (below_step HB.out hb); clear HB; have HB := HB_; clear HB_; have BK0_ := Aside0.mk ((hb.block _ (blk_lt BK0.out)).trans BK0.out); clear BK0; have BK0 := BK0_; clear BK0_; clear hg1 hb) | ((with_reducible refine gate_dst (N := 7) rfl ?_); refine box_event ?hg (N := 7) ?hd (cs := #[.slice A2_0 nE2 c2_0, .slice A2_1 nL2 c2_1, s2]) (t := 51) ?hr ?_; (case hd => rfl); (case hg => rfl); (case hr => first | (go_simp; done) | (go_simp; rfl)); intro b2 hg2 wb2 hbox hb; have BK2 := Aside0.mk hbox; clear hbox; have HB_ := Aside0.mk (below_step HB.out hb); clear HB; have HB := HB_; clear HB_; have BK0_ := Aside0.mk ((hb.block _ (blk_lt BK0.out)).trans BK0.out); clear BK0; have BK0 := BK0_; clear BK0_; have BK1_ := Aside0.mk ((hb.block _ (blk_lt BK1.out)).trans BK1.out); clear BK1; have BK1 := BK1_; clear BK1_; clear hg2 hb; have q00 : wb2.cell? ⟨b0, 0, none⟩ = some (.slice A0_0 nE0 c0_0) := (blk_cell BK0.out 0).trans rfl; have q01 : wb2.cell? ⟨b0, 1, none⟩ = some (.slice A0_1 nL0 c0_1) := (blk_cell BK0.out 1).trans rfl; have q02 : wb2.cell? ⟨b0, 2, none⟩ = some s0 := (blk_cell BK0.out 2).trans rfl; have q10 : wb2.cell? ⟨b1, 0, none⟩ = some (.slice A1_0 nE1 c1_0) := (blk_cell BK1.out 0).trans rfl; have q11 : wb2.cell? ⟨b1, 1, none⟩ = some (.slice A1_1 nL1 c1_1) := (blk_cell BK1.out 1).trans rfl; have q12 : wb2.cell? ⟨b1, 2, none⟩ = some s1 := (blk_cell BK1.out 2).trans rfl; have q20 : wb2.cell? ⟨b2, 0, none⟩ = some (.slice A2_0 nE2 c2_0) := (blk_cell BK2.out 0).trans rfl; have q21 : wb2.cell? ⟨b2, 1, none⟩ = some (.slice A2_1 nL2 c2_1) := (blk_cell BK2.out 1).trans rfl; have q22 : wb2.cell? ⟨b2, 2, none⟩ = some s2 := (blk_cell BK2.out 2).trans rfl))
      have HX := Aside0.mk (HF0.out wb2 HB.out)
      go_wp2_with fail
      refine HX.out.mono ?_
      rintro e wf0 ⟨rfl, hb⟩
      clear HX
      have BK0_ := Aside0.mk ((hb.block _ (blk_lt BK0.out)).trans BK0.out)
      have BK1_ := Aside0.mk ((hb.block _ (blk_lt BK1.out)).trans BK1.out)
      have BK2_ := Aside0.mk ((hb.block _ (blk_lt BK2.out)).trans BK2.out)
      have HB_ := Aside0.mk (below_step HB.out hb)
      clear q00 q01 q02 q10 q11 q12 q20 q21 q22 BK0 BK1 BK2 HB  hb
      have BK0 := BK0_
      clear BK0_
      have BK1 := BK1_
      clear BK1_
      have BK2 := BK2_
      clear BK2_
      have HB := HB_
      clear HB_
      have q00 : wf0.cell? ⟨b0, 0, none⟩ = some (.slice A0_0 nE0 c0_0) := (blk_cell BK0.out 0).trans rfl
      have q01 : wf0.cell? ⟨b0, 1, none⟩ = some (.slice A0_1 nL0 c0_1) := (blk_cell BK0.out 1).trans rfl
      have q02 : wf0.cell? ⟨b0, 2, none⟩ = some s0 := (blk_cell BK0.out 2).trans rfl
      have q10 : wf0.cell? ⟨b1, 0, none⟩ = some (.slice A1_0 nE1 c1_0) := (blk_cell BK1.out 0).trans rfl
      have q11 : wf0.cell? ⟨b1, 1, none⟩ = some (.slice A1_1 nL1 c1_1) := (blk_cell BK1.out 1).trans rfl
      have q12 : wf0.cell? ⟨b1, 2, none⟩ = some s1 := (blk_cell BK1.out 2).trans rfl
      have q20 : wf0.cell? ⟨b2, 0, none⟩ = some (.slice A2_0 nE2 c2_0) := (blk_cell BK2.out 0).trans rfl
      have q21 : wf0.cell? ⟨b2, 1, none⟩ = some (.slice A2_1 nL2 c2_1) := (blk_cell BK2.out 1).trans rfl
      have q22 : wf0.cell? ⟨b2, 2, none⟩ = some s2 := (blk_cell BK2.out 2).trans rfl
      have HX := Aside0.mk (HAL.out wf0)
      go_wp2_with fail
      refine HX.out.mono ?_
      rintro e w2 ⟨rfl, hb⟩
      have HB2 := Aside0.mk (below_step HB.out hb)
      clear hb HX
      go_wp2
      go_ret
      exact ⟨rfl, HB2.out⟩
    | true =>
      cases f1 with
      | false =>
        go_enter Try.func9, Try.ntmps9
        have HB := Aside0.mk (Below.refl w.heap.size w)
        go_wp2_with (first | ((with_reducible refine gate_dst (N := 5) rfl ?_); refine box_event ?hg (N := 5) ?hd (cs := #[.slice A0_0 nE0 c0_0, .slice A0_1 nL0 c0_1, s0]) (t := 51) ?hr ?_; (case hd => rfl); (case hg => rfl); (case hr => first | (go_simp; done) | (go_simp; rfl)); intro b0 hg0 wb0 hbox hb; have BK0 := Aside0.mk hbox; clear hbox; have HB_ := Aside0.mk (below_step HB.out hb); clear HB; have HB := HB_; clear HB_; clear hg0 hb) | ((with_reducible refine gate_dst (N := 6) rfl ?_); refine box_event ?hg (N := 6) ?hd (cs := #[.slice A1_0 nE1 c1_0, .slice A1_1 nL1 c1_1, s1]) (t := 51) ?hr ?_; (case hd => rfl); (case hg => rfl); (case hr => first | (go_simp; done) | (go_simp; rfl)); intro b1 hg1 wb1 hbox hb; have BK1 := Aside0.mk hbox; clear hbox; have HB_ := Aside0.mk (below_step HB.out hb); clear HB; have HB := HB_; clear HB_; have BK0_ := Aside0.mk ((hb.block _ (blk_lt BK0.out)).trans BK0.out); clear BK0; have BK0 := BK0_; clear BK0_; clear hg1 hb) | ((with_reducible refine gate_dst (N := 7) rfl ?_); refine box_event ?hg (N := 7) ?hd (cs := #[.slice A2_0 nE2 c2_0, .slice A2_1 nL2 c2_1, s2]) (t := 51) ?hr ?_; (case hd => rfl); (case hg => rfl); (case hr => first | (go_simp; done) | (go_simp; rfl)); intro b2 hg2 wb2 hbox hb; have BK2 := Aside0.mk hbox; clear hbox; have HB_ := Aside0.mk (below_step HB.out hb); clear HB; have HB := HB_; clear HB_; have BK0_ := Aside0.mk ((hb.block _ (blk_lt BK0.out)).trans BK0.out); clear BK0; have BK0 := BK0_; clear BK0_; have BK1_ := Aside0.mk ((hb.block _ (blk_lt BK1.out)).trans BK1.out); clear BK1; have BK1 := BK1_; clear BK1_; clear hg2 hb; have q00 : wb2.cell? ⟨b0, 0, none⟩ = some (.slice A0_0 nE0 c0_0) := (blk_cell BK0.out 0).trans rfl; have q01 : wb2.cell? ⟨b0, 1, none⟩ = some (.slice A0_1 nL0 c0_1) := (blk_cell BK0.out 1).trans rfl; have q02 : wb2.cell? ⟨b0, 2, none⟩ = some s0 := (blk_cell BK0.out 2).trans rfl; have q10 : wb2.cell? ⟨b1, 0, none⟩ = some (.slice A1_0 nE1 c1_0) := (blk_cell BK1.out 0).trans rfl; have q11 : wb2.cell? ⟨b1, 1, none⟩ = some (.slice A1_1 nL1 c1_1) := (blk_cell BK1.out 1).trans rfl; have q12 : wb2.cell? ⟨b1, 2, none⟩ = some s1 := (blk_cell BK1.out 2).trans rfl; have q20 : wb2.cell? ⟨b2, 0, none⟩ = some (.slice A2_0 nE2 c2_0) := (blk_cell BK2.out 0).trans rfl; have q21 : wb2.cell? ⟨b2, 1, none⟩ = some (.slice A2_1 nL2 c2_1) := (blk_cell BK2.out 1).trans rfl; have q22 : wb2.cell? ⟨b2, 2, none⟩ = some s2 := (blk_cell BK2.out 2).trans rfl))
        have HX := Aside0.mk (HF0.out wb2 HB.out)
        go_wp2_with fail
        refine HX.out.mono ?_
        rintro e wf0 ⟨rfl, hb⟩
        clear HX
        have BK0_ := Aside0.mk ((hb.block _ (blk_lt BK0.out)).trans BK0.out)
        have BK1_ := Aside0.mk ((hb.block _ (blk_lt BK1.out)).trans BK1.out)
        have BK2_ := Aside0.mk ((hb.block _ (blk_lt BK2.out)).trans BK2.out)
        have HB_ := Aside0.mk (below_step HB.out hb)
        clear q00 q01 q02 q10 q11 q12 q20 q21 q22 BK0 BK1 BK2 HB  hb
        have BK0 := BK0_
        clear BK0_
        have BK1 := BK1_
        clear BK1_
        have BK2 := BK2_
        clear BK2_
        have HB := HB_
        clear HB_
        have q00 : wf0.cell? ⟨b0, 0, none⟩ = some (.slice A0_0 nE0 c0_0) := (blk_cell BK0.out 0).trans rfl
        have q01 : wf0.cell? ⟨b0, 1, none⟩ = some (.slice A0_1 nL0 c0_1) := (blk_cell BK0.out 1).trans rfl
        have q02 : wf0.cell? ⟨b0, 2, none⟩ = some s0 := (blk_cell BK0.out 2).trans rfl
        have q10 : wf0.cell? ⟨b1, 0, none⟩ = some (.slice A1_0 nE1 c1_0) := (blk_cell BK1.out 0).trans rfl
        have q11 : wf0.cell? ⟨b1, 1, none⟩ = some (.slice A1_1 nL1 c1_1) := (blk_cell BK1.out 1).trans rfl
        have q12 : wf0.cell? ⟨b1, 2, none⟩ = some s1 := (blk_cell BK1.out 2).trans rfl
        have q20 : wf0.cell? ⟨b2, 0, none⟩ = some (.slice A2_0 nE2 c2_0) := (blk_cell BK2.out 0).trans rfl
        have q21 : wf0.cell? ⟨b2, 1, none⟩ = some (.slice A2_1 nL2 c2_1) := (blk_cell BK2.out 1).trans rfl
        have q22 : wf0.cell? ⟨b2, 2, none⟩ = some s2 := (blk_cell BK2.out 2).trans rfl
        have HX := Aside0.mk (HF1.out wf0 HB.out)
        go_wp2_with fail
        refine HX.out.mono ?_
        rintro e wf1 ⟨rfl, hb⟩
        clear HX
        have BK0_ := Aside0.mk ((hb.block _ (blk_lt BK0.out)).trans BK0.out)
        have BK1_ := Aside0.mk ((hb.block _ (blk_lt BK1.out)).trans BK1.out)
        have BK2_ := Aside0.mk ((hb.block _ (blk_lt BK2.out)).trans BK2.out)
        have HB_ := Aside0.mk (below_step HB.out hb)
        clear q00 q01 q02 q10 q11 q12 q20 q21 q22 BK0 BK1 BK2 HB  hb
        have BK0 := BK0_
        clear BK0_
        have BK1 := BK1_
        clear BK1_
        have BK2 := BK2_
        clear BK2_
        have HB := HB_
        clear HB_
        have q00 : wf1.cell? ⟨b0, 0, none⟩ = some (.slice A0_0 nE0 c0_0) := (blk_cell BK0.out 0).trans rfl
        have q01 : wf1.cell? ⟨b0, 1, none⟩ = some (.slice A0_1 nL0 c0_1) := (blk_cell BK0.out 1).trans rfl
        have q02 : wf1.cell? ⟨b0, 2, none⟩ = some s0 := (blk_cell BK0.out 2).trans rfl
        have q10 : wf1.cell? ⟨b1, 0, none⟩ = some (.slice A1_0 nE1 c1_0) := (blk_cell BK1.out 0).trans rfl
        have q11 : wf1.cell? ⟨b1, 1, none⟩ = some (.slice A1_1 nL1 c1_1) := (blk_cell BK1.out 1).trans rfl
        have q12 : wf1.cell? ⟨b1, 2, none⟩ = some s1 := (blk_cell BK1.out 2).trans rfl
        have q20 : wf1.cell? ⟨b2, 0, none⟩ = some (.slice A2_0 nE2 c2_0) := (blk_cell BK2.out 0).trans rfl
        have q21 : wf1.cell? ⟨b2, 1, none⟩ = some (.slice A2_1 nL2 c2_1) := (blk_cell BK2.out 1).trans rfl
        have q22 : wf1.cell? ⟨b2, 2, none⟩ = some s2 := (blk_cell BK2.out 2).trans rfl
        have HX := Aside0.mk (HAL.out wf1)
        go_wp2_with fail
        refine HX.out.mono ?_
        rintro e w2 ⟨rfl, hb⟩
        have HB2 := Aside0.mk (below_step HB.out hb)
        clear hb HX
        go_wp2
        go_ret
        exact ⟨rfl, HB2.out⟩
      | true =>
        cases f2 with
        | false =>
          go_enter Try.func9, Try.ntmps9
          have HB := Aside0.mk (Below.refl w.heap.size w)
          go_wp2_with (first | ((with_reducible refine gate_dst (N := 5) rfl ?_); refine box_event ?hg (N := 5) ?hd (cs := #[.slice A0_0 nE0 c0_0, .slice A0_1 nL0 c0_1, s0]) (t := 51) ?hr ?_; (case hd => rfl); (case hg => rfl); (case hr => first | (go_simp; done) | (go_simp; rfl)); intro b0 hg0 wb0 hbox hb; have BK0 := Aside0.mk hbox; clear hbox; have HB_ := Aside0.mk (below_step HB.out hb); clear HB; have HB := HB_; clear HB_; clear hg0 hb) | ((with_reducible refine gate_dst (N := 6) rfl ?_); refine box_event ?hg (N := 6) ?hd (cs := #[.slice A1_0 nE1 c1_0, .slice A1_1 nL1 c1_1, s1]) (t := 51) ?hr ?_; (case hd => rfl); (case hg => rfl); (case hr => first | (go_simp; done) | (go_simp; rfl)); intro b1 hg1 wb1 hbox hb; have BK1 := Aside0.mk hbox; clear hbox; have HB_ := Aside0.mk (below_step HB.out hb); clear HB; have HB := HB_; clear HB_; have BK0_ := Aside0.mk ((hb.block _ (blk_lt BK0.out)).trans BK0.out); clear BK0; have BK0 := BK0_; clear BK0_; clear hg1 hb) | ((with_reducible refine gate_dst (N := 7) rfl ?_); refine box_event ?hg (N := 7) ?hd (cs := #[.slice A2_0 nE2 c2_0, .slice A2_1 nL2 c2_1, s2]) (t := 51) ?hr ?_; (case hd => rfl); (case hg => rfl); (case hr => first | (go_simp; done) | (go_simp; rfl)); intro b2 hg2 wb2 hbox hb; have BK2 := Aside0.mk hbox; clear hbox; have HB_ := Aside0.mk (below_step HB.out hb); clear HB; have HB := HB_; clear HB_; have BK0_ := Aside0.mk ((hb.block _ (blk_lt BK0.out)).trans BK0.out); clear BK0; have BK0 := BK0_; clear BK0_; have BK1_ := Aside0.mk ((hb.block _ (blk_lt BK1.out)).trans BK1.out); clear BK1; have BK1 := BK1_; clear BK1_; clear hg2 hb; have q00 : wb2.cell? ⟨b0, 0, none⟩ = some (.slice A0_0 nE0 c0_0) := (blk_cell BK0.out 0).trans rfl; have q01 : wb2.cell? ⟨b0, 1, none⟩ = some (.slice A0_1 nL0 c0_1) := (blk_cell BK0.out 1).trans rfl; have q02 : wb2.cell? ⟨b0, 2, none⟩ = some s0 := (blk_cell BK0.out 2).trans rfl; have q10 : wb2.cell? ⟨b1, 0, none⟩ = some (.slice A1_0 nE1 c1_0) := (blk_cell BK1.out 0).trans rfl; have q11 : wb2.cell? ⟨b1, 1, none⟩ = some (.slice A1_1 nL1 c1_1) := (blk_cell BK1.out 1).trans rfl; have q12 : wb2.cell? ⟨b1, 2, none⟩ = some s1 := (blk_cell BK1.out 2).trans rfl; have q20 : wb2.cell? ⟨b2, 0, none⟩ = some (.slice A2_0 nE2 c2_0) := (blk_cell BK2.out 0).trans rfl; have q21 : wb2.cell? ⟨b2, 1, none⟩ = some (.slice A2_1 nL2 c2_1) := (blk_cell BK2.out 1).trans rfl; have q22 : wb2.cell? ⟨b2, 2, none⟩ = some s2 := (blk_cell BK2.out 2).trans rfl))
          have HX := Aside0.mk (HF0.out wb2 HB.out)
          go_wp2_with fail
          refine HX.out.mono ?_
          rintro e wf0 ⟨rfl, hb⟩
          clear HX
          have BK0_ := Aside0.mk ((hb.block _ (blk_lt BK0.out)).trans BK0.out)
          have BK1_ := Aside0.mk ((hb.block _ (blk_lt BK1.out)).trans BK1.out)
          have BK2_ := Aside0.mk ((hb.block _ (blk_lt BK2.out)).trans BK2.out)
          have HB_ := Aside0.mk (below_step HB.out hb)
          clear q00 q01 q02 q10 q11 q12 q20 q21 q22 BK0 BK1 BK2 HB  hb
          have BK0 := BK0_
          clear BK0_
          have BK1 := BK1_
          clear BK1_
          have BK2 := BK2_
          clear BK2_
          have HB := HB_
          clear HB_
          have q00 : wf0.cell? ⟨b0, 0, none⟩ = some (.slice A0_0 nE0 c0_0) := (blk_cell BK0.out 0).trans rfl
          have q01 : wf0.cell? ⟨b0, 1, none⟩ = some (.slice A0_1 nL0 c0_1) := (blk_cell BK0.out 1).trans rfl
          have q02 : wf0.cell? ⟨b0, 2, none⟩ = some s0 := (blk_cell BK0.out 2).trans rfl
          have q10 : wf0.cell? ⟨b1, 0, none⟩ = some (.slice A1_0 nE1 c1_0) := (blk_cell BK1.out 0).trans rfl
          have q11 : wf0.cell? ⟨b1, 1, none⟩ = some (.slice A1_1 nL1 c1_1) := (blk_cell BK1.out 1).trans rfl
          have q12 : wf0.cell? ⟨b1, 2, none⟩ = some s1 := (blk_cell BK1.out 2).trans rfl
          have q20 : wf0.cell? ⟨b2, 0, none⟩ = some (.slice A2_0 nE2 c2_0) := (blk_cell BK2.out 0).trans rfl
          have q21 : wf0.cell? ⟨b2, 1, none⟩ = some (.slice A2_1 nL2 c2_1) := (blk_cell BK2.out 1).trans rfl
          have q22 : wf0.cell? ⟨b2, 2, none⟩ = some s2 := (blk_cell BK2.out 2).trans rfl
          have HX := Aside0.mk (HF1.out wf0 HB.out)
          go_wp2_with fail
          refine HX.out.mono ?_
          rintro e wf1 ⟨rfl, hb⟩
          clear HX
          have BK0_ := Aside0.mk ((hb.block _ (blk_lt BK0.out)).trans BK0.out)
          have BK1_ := Aside0.mk ((hb.block _ (blk_lt BK1.out)).trans BK1.out)
          have BK2_ := Aside0.mk ((hb.block _ (blk_lt BK2.out)).trans BK2.out)
          have HB_ := Aside0.mk (below_step HB.out hb)
          clear q00 q01 q02 q10 q11 q12 q20 q21 q22 BK0 BK1 BK2 HB  hb
          have BK0 := BK0_
          clear BK0_
          have BK1 := BK1_
          clear BK1_
          have BK2 := BK2_
          clear BK2_
          have HB := HB_
          clear HB_
          have q00 : wf1.cell? ⟨b0, 0, none⟩ = some (.slice A0_0 nE0 c0_0) := (blk_cell BK0.out 0).trans rfl
          have q01 : wf1.cell? ⟨b0, 1, none⟩ = some (.slice A0_1 nL0 c0_1) := (blk_cell BK0.out 1).trans rfl
          have q02 : wf1.cell? ⟨b0, 2, none⟩ = some s0 := (blk_cell BK0.out 2).trans rfl
          have q10 : wf1.cell? ⟨b1, 0, none⟩ = some (.slice A1_0 nE1 c1_0) := (blk_cell BK1.out 0).trans rfl
          have q11 : wf1.cell? ⟨b1, 1, none⟩ = some (.slice A1_1 nL1 c1_1) := (blk_cell BK1.out 1).trans rfl
          have q12 : wf1.cell? ⟨b1, 2, none⟩ = some s1 := (blk_cell BK1.out 2).trans rfl
          have q20 : wf1.cell? ⟨b2, 0, none⟩ = some (.slice A2_0 nE2 c2_0) := (blk_cell BK2.out 0).trans rfl
          have q21 : wf1.cell? ⟨b2, 1, none⟩ = some (.slice A2_1 nL2 c2_1) := (blk_cell BK2.out 1).trans rfl
          have q22 : wf1.cell? ⟨b2, 2, none⟩ = some s2 := (blk_cell BK2.out 2).trans rfl
          have HX := Aside0.mk (HF2.out wf1 HB.out)
          go_wp2_with fail
          refine HX.out.mono ?_
          rintro e wf2 ⟨rfl, hb⟩
          clear HX
          have BK0_ := Aside0.mk ((hb.block _ (blk_lt BK0.out)).trans BK0.out)
          have BK1_ := Aside0.mk ((hb.block _ (blk_lt BK1.out)).trans BK1.out)
          have BK2_ := Aside0.mk ((hb.block _ (blk_lt BK2.out)).trans BK2.out)
          have HB_ := Aside0.mk (below_step HB.out hb)
          clear q00 q01 q02 q10 q11 q12 q20 q21 q22 BK0 BK1 BK2 HB  hb
          have BK0 := BK0_
          clear BK0_
          have BK1 := BK1_
          clear BK1_
          have BK2 := BK2_
          clear BK2_
          have HB := HB_
          clear HB_
          have q00 : wf2.cell? ⟨b0, 0, none⟩ = some (.slice A0_0 nE0 c0_0) := (blk_cell BK0.out 0).trans rfl
          have q01 : wf2.cell? ⟨b0, 1, none⟩ = some (.slice A0_1 nL0 c0_1) := (blk_cell BK0.out 1).trans rfl
          have q02 : wf2.cell? ⟨b0, 2, none⟩ = some s0 := (blk_cell BK0.out 2).trans rfl
          have q10 : wf2.cell? ⟨b1, 0, none⟩ = some (.slice A1_0 nE1 c1_0) := (blk_cell BK1.out 0).trans rfl
          have q11 : wf2.cell? ⟨b1, 1, none⟩ = some (.slice A1_1 nL1 c1_1) := (blk_cell BK1.out 1).trans rfl
          have q12 : wf2.cell? ⟨b1, 2, none⟩ = some s1 := (blk_cell BK1.out 2).trans rfl
          have q20 : wf2.cell? ⟨b2, 0, none⟩ = some (.slice A2_0 nE2 c2_0) := (blk_cell BK2.out 0).trans rfl
          have q21 : wf2.cell? ⟨b2, 1, none⟩ = some (.slice A2_1 nL2 c2_1) := (blk_cell BK2.out 1).trans rfl
          have q22 : wf2.cell? ⟨b2, 2, none⟩ = some s2 := (blk_cell BK2.out 2).trans rfl
          have HX := Aside0.mk (HAL.out wf2)
          go_wp2_with fail
          refine HX.out.mono ?_
          rintro e w2 ⟨rfl, hb⟩
          have HB2 := Aside0.mk (below_step HB.out hb)
          clear hb HX
          go_wp2
          go_ret
          exact ⟨rfl, HB2.out⟩
        | true =>
          by_cases h3 : n3 ≤ 60
          case neg =>
            have e3 : (60 : Int) < (n3 : Int) := by omega
            have e3' : decide ((60 : Int) < (n3 : Int)) = true := decide_eq_true e3
            go_enter Try.func9, Try.ntmps9
            have HB := Aside0.mk (Below.refl w.heap.size w)
            go_wp2_with (first | ((with_reducible refine gate_dst (N := 5) rfl ?_); refine box_event ?hg (N := 5) ?hd (cs := #[.slice A0_0 nE0 c0_0, .slice A0_1 nL0 c0_1, s0]) (t := 51) ?hr ?_; (case hd => rfl); (case hg => rfl); (case hr => first | (go_simp; done) | (go_simp; rfl)); intro b0 hg0 wb0 hbox hb; have BK0 := Aside0.mk hbox; clear hbox; have HB_ := Aside0.mk (below_step HB.out hb); clear HB; have HB := HB_; clear HB_; clear hg0 hb) | ((with_reducible refine gate_dst (N := 6) rfl ?_); refine box_event ?hg (N := 6) ?hd (cs := #[.slice A1_0 nE1 c1_0, .slice A1_1 nL1 c1_1, s1]) (t := 51) ?hr ?_; (case hd => rfl); (case hg => rfl); (case hr => first | (go_simp; done) | (go_simp; rfl)); intro b1 hg1 wb1 hbox hb; have BK1 := Aside0.mk hbox; clear hbox; have HB_ := Aside0.mk (below_step HB.out hb); clear HB; have HB := HB_; clear HB_; have BK0_ := Aside0.mk ((hb.block _ (blk_lt BK0.out)).trans BK0.out); clear BK0; have BK0 := BK0_; clear BK0_; clear hg1 hb) | ((with_reducible refine gate_dst (N := 7) rfl ?_); refine box_event ?hg (N := 7) ?hd (cs := #[.slice A2_0 nE2 c2_0, .slice A2_1 nL2 c2_1, s2]) (t := 51) ?hr ?_; (case hd => rfl); (case hg => rfl); (case hr => first | (go_simp; done) | (go_simp; rfl)); intro b2 hg2 wb2 hbox hb; have BK2 := Aside0.mk hbox; clear hbox; have HB_ := Aside0.mk (below_step HB.out hb); clear HB; have HB := HB_; clear HB_; have BK0_ := Aside0.mk ((hb.block _ (blk_lt BK0.out)).trans BK0.out); clear BK0; have BK0 := BK0_; clear BK0_; have BK1_ := Aside0.mk ((hb.block _ (blk_lt BK1.out)).trans BK1.out); clear BK1; have BK1 := BK1_; clear BK1_; clear hg2 hb; have q00 : wb2.cell? ⟨b0, 0, none⟩ = some (.slice A0_0 nE0 c0_0) := (blk_cell BK0.out 0).trans rfl; have q01 : wb2.cell? ⟨b0, 1, none⟩ = some (.slice A0_1 nL0 c0_1) := (blk_cell BK0.out 1).trans rfl; have q02 : wb2.cell? ⟨b0, 2, none⟩ = some s0 := (blk_cell BK0.out 2).trans rfl; have q10 : wb2.cell? ⟨b1, 0, none⟩ = some (.slice A1_0 nE1 c1_0) := (blk_cell BK1.out 0).trans rfl; have q11 : wb2.cell? ⟨b1, 1, none⟩ = some (.slice A1_1 nL1 c1_1) := (blk_cell BK1.out 1).trans rfl; have q12 : wb2.cell? ⟨b1, 2, none⟩ = some s1 := (blk_cell BK1.out 2).trans rfl; have q20 : wb2.cell? ⟨b2, 0, none⟩ = some (.slice A2_0 nE2 c2_0) := (blk_cell BK2.out 0).trans rfl; have q21 : wb2.cell? ⟨b2, 1, none⟩ = some (.slice A2_1 nL2 c2_1) := (blk_cell BK2.out 1).trans rfl; have q22 : wb2.cell? ⟨b2, 2, none⟩ = some s2 := (blk_cell BK2.out 2).trans rfl))
            have HX := Aside0.mk (HF0.out wb2 HB.out)
            go_wp2_with fail
            refine HX.out.mono ?_
            rintro e wf0 ⟨rfl, hb⟩
            clear HX
            have BK0_ := Aside0.mk ((hb.block _ (blk_lt BK0.out)).trans BK0.out)
            have BK1_ := Aside0.mk ((hb.block _ (blk_lt BK1.out)).trans BK1.out)
            have BK2_ := Aside0.mk ((hb.block _ (blk_lt BK2.out)).trans BK2.out)
            have HB_ := Aside0.mk (below_step HB.out hb)
            clear q00 q01 q02 q10 q11 q12 q20 q21 q22 BK0 BK1 BK2 HB  hb
            have BK0 := BK0_
            clear BK0_
            have BK1 := BK1_
            clear BK1_
            have BK2 := BK2_
            clear BK2_
            have HB := HB_
            clear HB_
            have q00 : wf0.cell? ⟨b0, 0, none⟩ = some (.slice A0_0 nE0 c0_0) := (blk_cell BK0.out 0).trans rfl
            have q01 : wf0.cell? ⟨b0, 1, none⟩ = some (.slice A0_1 nL0 c0_1) := (blk_cell BK0.out 1).trans rfl
            have q02 : wf0.cell? ⟨b0, 2, none⟩ = some s0 := (blk_cell BK0.out 2).trans rfl
            have q10 : wf0.cell? ⟨b1, 0, none⟩ = some (.slice A1_0 nE1 c1_0) := (blk_cell BK1.out 0).trans rfl
            have q11 : wf0.cell? ⟨b1, 1, none⟩ = some (.slice A1_1 nL1 c1_1) := (blk_cell BK1.out 1).trans rfl
            have q12 : wf0.cell? ⟨b1, 2, none⟩ = some s1 := (blk_cell BK1.out 2).trans rfl
            have q20 : wf0.cell? ⟨b2, 0, none⟩ = some (.slice A2_0 nE2 c2_0) := (blk_cell BK2.out 0).trans rfl
            have q21 : wf0.cell? ⟨b2, 1, none⟩ = some (.slice A2_1 nL2 c2_1) := (blk_cell BK2.out 1).trans rfl
            have q22 : wf0.cell? ⟨b2, 2, none⟩ = some s2 := (blk_cell BK2.out 2).trans rfl
            have HX := Aside0.mk (HF1.out wf0 HB.out)
            go_wp2_with fail
            refine HX.out.mono ?_
            rintro e wf1 ⟨rfl, hb⟩
            clear HX
            have BK0_ := Aside0.mk ((hb.block _ (blk_lt BK0.out)).trans BK0.out)
            have BK1_ := Aside0.mk ((hb.block _ (blk_lt BK1.out)).trans BK1.out)
            have BK2_ := Aside0.mk ((hb.block _ (blk_lt BK2.out)).trans BK2.out)
            have HB_ := Aside0.mk (below_step HB.out hb)
            clear q00 q01 q02 q10 q11 q12 q20 q21 q22 BK0 BK1 BK2 HB  hb
            have BK0 := BK0_
            clear BK0_
            have BK1 := BK1_
            clear BK1_
            have BK2 := BK2_
            clear BK2_
            have HB := HB_
            clear HB_
            have q00 : wf1.cell? ⟨b0, 0, none⟩ = some (.slice A0_0 nE0 c0_0) := (blk_cell BK0.out 0).trans rfl
            have q01 : wf1.cell? ⟨b0, 1, none⟩ = some (.slice A0_1 nL0 c0_1) := (blk_cell BK0.out 1).trans rfl
            have q02 : wf1.cell? ⟨b0, 2, none⟩ = some s0 := (blk_cell BK0.out 2).trans rfl
            have q10 : wf1.cell? ⟨b1, 0, none⟩ = some (.slice A1_0 nE1 c1_0) := (blk_cell BK1.out 0).trans rfl
            have q11 : wf1.cell? ⟨b1, 1, none⟩ = some (.slice A1_1 nL1 c1_1) := (blk_cell BK1.out 1).trans rfl
            have q12 : wf1.cell? ⟨b1, 2, none⟩ = some s1 := (blk_cell BK1.out 2).trans rfl
            have q20 : wf1.cell? ⟨b2, 0, none⟩ = some (.slice A2_0 nE2 c2_0) := (blk_cell BK2.out 0).trans rfl
            have q21 : wf1.cell? ⟨b2, 1, none⟩ = some (.slice A2_1 nL2 c2_1) := (blk_cell BK2.out 1).trans rfl
            have q22 : wf1.cell? ⟨b2, 2, none⟩ = some s2 := (blk_cell BK2.out 2).trans rfl
            have HX := Aside0.mk (HF2.out wf1 HB.out)
            go_wp2_with fail
            refine HX.out.mono ?_
            rintro e wf2 ⟨rfl, hb⟩
            clear HX
            have BK0_ := Aside0.mk ((hb.block _ (blk_lt BK0.out)).trans BK0.out)
            have BK1_ := Aside0.mk ((hb.block _ (blk_lt BK1.out)).trans BK1.out)
            have BK2_ := Aside0.mk ((hb.block _ (blk_lt BK2.out)).trans BK2.out)
            have HB_ := Aside0.mk (below_step HB.out hb)
            clear q00 q01 q02 q10 q11 q12 q20 q21 q22 BK0 BK1 BK2 HB  hb
            have BK0 := BK0_
            clear BK0_
            have BK1 := BK1_
            clear BK1_
            have BK2 := BK2_
            clear BK2_
            have HB := HB_
            clear HB_
            have q00 : wf2.cell? ⟨b0, 0, none⟩ = some (.slice A0_0 nE0 c0_0) := (blk_cell BK0.out 0).trans rfl
            have q01 : wf2.cell? ⟨b0, 1, none⟩ = some (.slice A0_1 nL0 c0_1) := (blk_cell BK0.out 1).trans rfl
            have q02 : wf2.cell? ⟨b0, 2, none⟩ = some s0 := (blk_cell BK0.out 2).trans rfl
            have q10 : wf2.cell? ⟨b1, 0, none⟩ = some (.slice A1_0 nE1 c1_0) := (blk_cell BK1.out 0).trans rfl
            have q11 : wf2.cell? ⟨b1, 1, none⟩ = some (.slice A1_1 nL1 c1_1) := (blk_cell BK1.out 1).trans rfl
            have q12 : wf2.cell? ⟨b1, 2, none⟩ = some s1 := (blk_cell BK1.out 2).trans rfl
            have q20 : wf2.cell? ⟨b2, 0, none⟩ = some (.slice A2_0 nE2 c2_0) := (blk_cell BK2.out 0).trans rfl
            have q21 : wf2.cell? ⟨b2, 1, none⟩ = some (.slice A2_1 nL2 c2_1) := (blk_cell BK2.out 1).trans rfl
            have q22 : wf2.cell? ⟨b2, 2, none⟩ = some s2 := (blk_cell BK2.out 2).trans rfl
            have HX := Aside0.mk (HAL.out wf2)
            go_wp2_with fail
            refine HX.out.mono ?_
            rintro e w2 ⟨rfl, hb⟩
            have HB2 := Aside0.mk (below_step HB.out hb)
            clear hb HX
            go_wp2
            go_ret
            exact ⟨rfl, HB2.out⟩
          case pos =>
            have e3 : ¬ (60 : Int) < (n3 : Int) := by omega
            have e3' : decide ((60 : Int) < (n3 : Int)) = false := decide_eq_false e3
            by_cases h4 : n4 ≤ 60
            case neg =>
              have e4 : (60 : Int) < (n4 : Int) := by omega
              have e4' : decide ((60 : Int) < (n4 : Int)) = true := decide_eq_true e4
              go_enter Try.func9, Try.ntmps9
              have HB := Aside0.mk (Below.refl w.heap.size w)
              go_wp2_with (first | ((with_reducible refine gate_dst (N := 5) rfl ?_); refine box_event ?hg (N := 5) ?hd (cs := #[.slice A0_0 nE0 c0_0, .slice A0_1 nL0 c0_1, s0]) (t := 51) ?hr ?_; (case hd => rfl); (case hg => rfl); (case hr => first | (go_simp; done) | (go_simp; rfl)); intro b0 hg0 wb0 hbox hb; have BK0 := Aside0.mk hbox; clear hbox; have HB_ := Aside0.mk (below_step HB.out hb); clear HB; have HB := HB_; clear HB_; clear hg0 hb) | ((with_reducible refine gate_dst (N := 6) rfl ?_); refine box_event ?hg (N := 6) ?hd (cs := #[.slice A1_0 nE1 c1_0, .slice A1_1 nL1 c1_1, s1]) (t := 51) ?hr ?_; (case hd => rfl); (case hg => rfl); (case hr => first | (go_simp; done) | (go_simp; rfl)); intro b1 hg1 wb1 hbox hb; have BK1 := Aside0.mk hbox; clear hbox; have HB_ := Aside0.mk (below_step HB.out hb); clear HB; have HB := HB_; clear HB_; have BK0_ := Aside0.mk ((hb.block _ (blk_lt BK0.out)).trans BK0.out); clear BK0; have BK0 := BK0_; clear BK0_; clear hg1 hb) | ((with_reducible refine gate_dst (N := 7) rfl ?_); refine box_event ?hg (N := 7) ?hd (cs := #[.slice A2_0 nE2 c2_0, .slice A2_1 nL2 c2_1, s2]) (t := 51) ?hr ?_; (case hd => rfl); (case hg => rfl); (case hr => first | (go_simp; done) | (go_simp; rfl)); intro b2 hg2 wb2 hbox hb; have BK2 := Aside0.mk hbox; clear hbox; have HB_ := Aside0.mk (below_step HB.out hb); clear HB; have HB := HB_; clear HB_; have BK0_ := Aside0.mk ((hb.block _ (blk_lt BK0.out)).trans BK0.out); clear BK0; have BK0 := BK0_; clear BK0_; have BK1_ := Aside0.mk ((hb.block _ (blk_lt BK1.out)).trans BK1.out); clear BK1; have BK1 := BK1_; clear BK1_; clear hg2 hb; have q00 : wb2.cell? ⟨b0, 0, none⟩ = some (.slice A0_0 nE0 c0_0) := (blk_cell BK0.out 0).trans rfl; have q01 : wb2.cell? ⟨b0, 1, none⟩ = some (.slice A0_1 nL0 c0_1) := (blk_cell BK0.out 1).trans rfl; have q02 : wb2.cell? ⟨b0, 2, none⟩ = some s0 := (blk_cell BK0.out 2).trans rfl; have q10 : wb2.cell? ⟨b1, 0, none⟩ = some (.slice A1_0 nE1 c1_0) := (blk_cell BK1.out 0).trans rfl; have q11 : wb2.cell? ⟨b1, 1, none⟩ = some (.slice A1_1 nL1 c1_1) := (blk_cell BK1.out 1).trans rfl; have q12 : wb2.cell? ⟨b1, 2, none⟩ = some s1 := (blk_cell BK1.out 2).trans rfl; have q20 : wb2.cell? ⟨b2, 0, none⟩ = some (.slice A2_0 nE2 c2_0) := (blk_cell BK2.out 0).trans rfl; have q21 : wb2.cell? ⟨b2, 1, none⟩ = some (.slice A2_1 nL2 c2_1) := (blk_cell BK2.out 1).trans rfl; have q22 : wb2.cell? ⟨b2, 2, none⟩ = some s2 := (blk_cell BK2.out 2).trans rfl))
              have HX := Aside0.mk (HF0.out wb2 HB.out)
              go_wp2_with fail
              refine HX.out.mono ?_
              rintro e wf0 ⟨rfl, hb⟩
              clear HX
              have BK0_ := Aside0.mk ((hb.block _ (blk_lt BK0.out)).trans BK0.out)
              have BK1_ := Aside0.mk ((hb.block _ (blk_lt BK1.out)).trans BK1.out)
              have BK2_ := Aside0.mk ((hb.block _ (blk_lt BK2.out)).trans BK2.out)
              have HB_ := Aside0.mk (below_step HB.out hb)
              clear q00 q01 q02 q10 q11 q12 q20 q21 q22 BK0 BK1 BK2 HB  hb
              have BK0 := BK0_
              clear BK0_
              have BK1 := BK1_
              clear BK1_
              have BK2 := BK2_
              clear BK2_
              have HB := HB_
              clear HB_
              have q00 : wf0.cell? ⟨b0, 0, none⟩ = some (.slice A0_0 nE0 c0_0) := (blk_cell BK0.out 0).trans rfl
              have q01 : wf0.cell? ⟨b0, 1, none⟩ = some (.slice A0_1 nL0 c0_1) := (blk_cell BK0.out 1).trans rfl
              have q02 : wf0.cell? ⟨b0, 2, none⟩ = some s0 := (blk_cell BK0.out 2).trans rfl
              have q10 : wf0.cell? ⟨b1, 0, none⟩ = some (.slice A1_0 nE1 c1_0) := (blk_cell BK1.out 0).trans rfl
              have q11 : wf0.cell? ⟨b1, 1, none⟩ = some (.slice A1_1 nL1 c1_1) := (blk_cell BK1.out 1).trans rfl
              have q12 : wf0.cell? ⟨b1, 2, none⟩ = some s1 := (blk_cell BK1.out 2).trans rfl
              have q20 : wf0.cell? ⟨b2, 0, none⟩ = some (.slice A2_0 nE2 c2_0) := (blk_cell BK2.out 0).trans rfl
              have q21 : wf0.cell? ⟨b2, 1, none⟩ = some (.slice A2_1 nL2 c2_1) := (blk_cell BK2.out 1).trans rfl
              have q22 : wf0.cell? ⟨b2, 2, none⟩ = some s2 := (blk_cell BK2.out 2).trans rfl
              have HX := Aside0.mk (HF1.out wf0 HB.out)
              go_wp2_with fail
              refine HX.out.mono ?_
              rintro e wf1 ⟨rfl, hb⟩
              clear HX
              have BK0_ := Aside0.mk ((hb.block _ (blk_lt BK0.out)).trans BK0.out)
              have BK1_ := Aside0.mk ((hb.block _ (blk_lt BK1.out)).trans BK1.out)
              have BK2_ := Aside0.mk ((hb.block _ (blk_lt BK2.out)).trans BK2.out)
              have HB_ := Aside0.mk (below_step HB.out hb)
              clear q00 q01 q02 q10 q11 q12 q20 q21 q22 BK0 BK1 BK2 HB  hb
              have BK0 := BK0_
              clear BK0_
              have BK1 := BK1_
              clear BK1_
              have BK2 := BK2_
              clear BK2_
              have HB := HB_
              clear HB_
              have q00 : wf1.cell? ⟨b0, 0, none⟩ = some (.slice A0_0 nE0 c0_0) := (blk_cell BK0.out 0).trans rfl
              have q01 : wf1.cell? ⟨b0, 1, none⟩ = some (.slice A0_1 nL0 c0_1) := (blk_cell BK0.out 1).trans rfl
              have q02 : wf1.cell? ⟨b0, 2, none⟩ = some s0 := (blk_cell BK0.out 2).trans rfl
              have q10 : wf1.cell? ⟨b1, 0, none⟩ = some (.slice A1_0 nE1 c1_0) := (blk_cell BK1.out 0).trans rfl
              have q11 : wf1.cell? ⟨b1, 1, none⟩ = some (.slice A1_1 nL1 c1_1) := (blk_cell BK1.out 1).trans rfl
              have q12 : wf1.cell? ⟨b1, 2, none⟩ = some s1 := (blk_cell BK1.out 2).trans rfl
              have q20 : wf1.cell? ⟨b2, 0, none⟩ = some (.slice A2_0 nE2 c2_0) := (blk_cell BK2.out 0).trans rfl
              have q21 : wf1.cell? ⟨b2, 1, none⟩ = some (.slice A2_1 nL2 c2_1) := (blk_cell BK2.out 1).trans rfl
              have q22 : wf1.cell? ⟨b2, 2, none⟩ = some s2 := (blk_cell BK2.out 2).trans rfl
              have HX := Aside0.mk (HF2.out wf1 HB.out)
              go_wp2_with fail
              refine HX.out.mono ?_
              rintro e wf2 ⟨rfl, hb⟩
              clear HX
              have BK0_ := Aside0.mk ((hb.block _ (blk_lt BK0.out)).trans BK0.out)
              have BK1_ := Aside0.mk ((hb.block _ (blk_lt BK1.out)).trans BK1.out)
              have BK2_ := Aside0.mk ((hb.block _ (blk_lt BK2.out)).trans BK2.out)
              have HB_ := Aside0.mk (below_step HB.out hb)
              clear q00 q01 q02 q10 q11 q12 q20 q21 q22 BK0 BK1 BK2 HB  hb
              have BK0 := BK0_
              clear BK0_
              have BK1 := BK1_
              clear BK1_
              have BK2 := BK2_
              clear BK2_
              have HB := HB_
              clear HB_
              have q00 : wf2.cell? ⟨b0, 0, none⟩ = some (.slice A0_0 nE0 c0_0) := (blk_cell BK0.out 0).trans rfl
              have q01 : wf2.cell? ⟨b0, 1, none⟩ = some (.slice A0_1 nL0 c0_1) := (blk_cell BK0.out 1).trans rfl
              have q02 : wf2.cell? ⟨b0, 2, none⟩ = some s0 := (blk_cell BK0.out 2).trans rfl
              have q10 : wf2.cell? ⟨b1, 0, none⟩ = some (.slice A1_0 nE1 c1_0) := (blk_cell BK1.out 0).trans rfl
              have q11 : wf2.cell? ⟨b1, 1, none⟩ = some (.slice A1_1 nL1 c1_1) := (blk_cell BK1.out 1).trans rfl
              have q12 : wf2.cell? ⟨b1, 2, none⟩ = some s1 := (blk_cell BK1.out 2).trans rfl
              have q20 : wf2.cell? ⟨b2, 0, none⟩ = some (.slice A2_0 nE2 c2_0) := (blk_cell BK2.out 0).trans rfl
              have q21 : wf2.cell? ⟨b2, 1, none⟩ = some (.slice A2_1 nL2 c2_1) := (blk_cell BK2.out 1).trans rfl
              have q22 : wf2.cell? ⟨b2, 2, none⟩ = some s2 := (blk_cell BK2.out 2).trans rfl
              have HX := Aside0.mk (HAL.out wf2)
              go_wp2_with fail
              refine HX.out.mono ?_
              rintro e w2 ⟨rfl, hb⟩
              have HB2 := Aside0.mk (below_step HB.out hb)
              clear hb HX
              go_wp2
              go_ret
              exact ⟨rfl, HB2.out⟩
            case pos =>
              have e4 : ¬ (60 : Int) < (n4 : Int) := by omega
              have e4' : decide ((60 : Int) < (n4 : Int)) = false := decide_eq_false e4
              obtain ⟨hE0, hL0⟩ := HQ0.out rfl
              obtain ⟨hE1, hL1⟩ := HQ1.out rfl
              obtain ⟨hE2, hL2⟩ := HQ2.out rfl
              have HCA2 := Aside0.mk (HCA.out (by omega) (by omega))
              have HCB2 := Aside0.mk (HCB.out (by omega) (by omega))
              have HTH2 := Aside0.mk (HTH.out (by omega))
              have HLK2 := Aside0.mk (HLK.out (by omega))
              clear HCA HCB HTH HLK HQ0 HQ1 HQ2
              obtain ⟨c1, hc1⟩ : ∃ c1, carB l0_0 l0_1 l1_0 l1_1 l3 = c1 := ⟨_, rfl⟩
              obtain ⟨c2, hc2⟩ : ∃ c2, carB l1_0 l1_1 l2_0 l2_1 l4 = c2 := ⟨_, rfl⟩
              rw [hc1] at HCA2
              rw [hc2] at HCB2
              go_enter Try.func9, Try.ntmps9
              have HB := Aside0.mk (Below.refl w.heap.size w)
              go_wp2_with (first | ((with_reducible refine gate_dst (N := 5) rfl ?_); refine box_event ?hg (N := 5) ?hd (cs := #[.slice A0_0 nE0 c0_0, .slice A0_1 nL0 c0_1, s0]) (t := 51) ?hr ?_; (case hd => rfl); (case hg => rfl); (case hr => first | (go_simp; done) | (go_simp; rfl)); intro b0 hg0 wb0 hbox hb; have BK0 := Aside0.mk hbox; clear hbox; have HB_ := Aside0.mk (below_step HB.out hb); clear HB; have HB := HB_; clear HB_; clear hg0 hb) | ((with_reducible refine gate_dst (N := 6) rfl ?_); refine box_event ?hg (N := 6) ?hd (cs := #[.slice A1_0 nE1 c1_0, .slice A1_1 nL1 c1_1, s1]) (t := 51) ?hr ?_; (case hd => rfl); (case hg => rfl); (case hr => first | (go_simp; done) | (go_simp; rfl)); intro b1 hg1 wb1 hbox hb; have BK1 := Aside0.mk hbox; clear hbox; have HB_ := Aside0.mk (below_step HB.out hb); clear HB; have HB := HB_; clear HB_; have BK0_ := Aside0.mk ((hb.block _ (blk_lt BK0.out)).trans BK0.out); clear BK0; have BK0 := BK0_; clear BK0_; clear hg1 hb) | ((with_reducible refine gate_dst (N := 7) rfl ?_); refine box_event ?hg (N := 7) ?hd (cs := #[.slice A2_0 nE2 c2_0, .slice A2_1 nL2 c2_1, s2]) (t := 51) ?hr ?_; (case hd => rfl); (case hg => rfl); (case hr => first | (go_simp; done) | (go_simp; rfl)); intro b2 hg2 wb2 hbox hb; have BK2 := Aside0.mk hbox; clear hbox; have HB_ := Aside0.mk (below_step HB.out hb); clear HB; have HB := HB_; clear HB_; have BK0_ := Aside0.mk ((hb.block _ (blk_lt BK0.out)).trans BK0.out); clear BK0; have BK0 := BK0_; clear BK0_; have BK1_ := Aside0.mk ((hb.block _ (blk_lt BK1.out)).trans BK1.out); clear BK1; have BK1 := BK1_; clear BK1_; clear hg2 hb; have q00 : wb2.cell? ⟨b0, 0, none⟩ = some (.slice A0_0 nE0 c0_0) := (blk_cell BK0.out 0).trans rfl; have q01 : wb2.cell? ⟨b0, 1, none⟩ = some (.slice A0_1 nL0 c0_1) := (blk_cell BK0.out 1).trans rfl; have q02 : wb2.cell? ⟨b0, 2, none⟩ = some s0 := (blk_cell BK0.out 2).trans rfl; have q10 : wb2.cell? ⟨b1, 0, none⟩ = some (.slice A1_0 nE1 c1_0) := (blk_cell BK1.out 0).trans rfl; have q11 : wb2.cell? ⟨b1, 1, none⟩ = some (.slice A1_1 nL1 c1_1) := (blk_cell BK1.out 1).trans rfl; have q12 : wb2.cell? ⟨b1, 2, none⟩ = some s1 := (blk_cell BK1.out 2).trans rfl; have q20 : wb2.cell? ⟨b2, 0, none⟩ = some (.slice A2_0 nE2 c2_0) := (blk_cell BK2.out 0).trans rfl; have q21 : wb2.cell? ⟨b2, 1, none⟩ = some (.slice A2_1 nL2 c2_1) := (blk_cell BK2.out 1).trans rfl; have q22 : wb2.cell? ⟨b2, 2, none⟩ = some s2 := (blk_cell BK2.out 2).trans rfl))
              have HX := Aside0.mk (HF0.out wb2 HB.out)
              go_wp2_with fail
              refine HX.out.mono ?_
              rintro e wf0 ⟨rfl, hb⟩
              clear HX
              have BK0_ := Aside0.mk ((hb.block _ (blk_lt BK0.out)).trans BK0.out)
              have BK1_ := Aside0.mk ((hb.block _ (blk_lt BK1.out)).trans BK1.out)
              have BK2_ := Aside0.mk ((hb.block _ (blk_lt BK2.out)).trans BK2.out)
              have HB_ := Aside0.mk (below_step HB.out hb)
              clear q00 q01 q02 q10 q11 q12 q20 q21 q22 BK0 BK1 BK2 HB  hb
              have BK0 := BK0_
              clear BK0_
              have BK1 := BK1_
              clear BK1_
              have BK2 := BK2_
              clear BK2_
              have HB := HB_
              clear HB_
              have q00 : wf0.cell? ⟨b0, 0, none⟩ = some (.slice A0_0 nE0 c0_0) := (blk_cell BK0.out 0).trans rfl
              have q01 : wf0.cell? ⟨b0, 1, none⟩ = some (.slice A0_1 nL0 c0_1) := (blk_cell BK0.out 1).trans rfl
              have q02 : wf0.cell? ⟨b0, 2, none⟩ = some s0 := (blk_cell BK0.out 2).trans rfl
              have q10 : wf0.cell? ⟨b1, 0, none⟩ = some (.slice A1_0 nE1 c1_0) := (blk_cell BK1.out 0).trans rfl
              have q11 : wf0.cell? ⟨b1, 1, none⟩ = some (.slice A1_1 nL1 c1_1) := (blk_cell BK1.out 1).trans rfl
              have q12 : wf0.cell? ⟨b1, 2, none⟩ = some s1 := (blk_cell BK1.out 2).trans rfl
              have q20 : wf0.cell? ⟨b2, 0, none⟩ = some (.slice A2_0 nE2 c2_0) := (blk_cell BK2.out 0).trans rfl
              have q21 : wf0.cell? ⟨b2, 1, none⟩ = some (.slice A2_1 nL2 c2_1) := (blk_cell BK2.out 1).trans rfl
              have q22 : wf0.cell? ⟨b2, 2, none⟩ = some s2 := (blk_cell BK2.out 2).trans rfl
              have HX := Aside0.mk (HF1.out wf0 HB.out)
              go_wp2_with fail
              refine HX.out.mono ?_
              rintro e wf1 ⟨rfl, hb⟩
              clear HX
              have BK0_ := Aside0.mk ((hb.block _ (blk_lt BK0.out)).trans BK0.out)
              have BK1_ := Aside0.mk ((hb.block _ (blk_lt BK1.out)).trans BK1.out)
              have BK2_ := Aside0.mk ((hb.block _ (blk_lt BK2.out)).trans BK2.out)
              have HB_ := Aside0.mk (below_step HB.out hb)
              clear q00 q01 q02 q10 q11 q12 q20 q21 q22 BK0 BK1 BK2 HB  hb
              have BK0 := BK0_
              clear BK0_
              have BK1 := BK1_
              clear BK1_
              have BK2 := BK2_
              clear BK2_
              have HB := HB_
              clear HB_
              have q00 : wf1.cell? ⟨b0, 0, none⟩ = some (.slice A0_0 nE0 c0_0) := (blk_cell BK0.out 0).trans rfl
              have q01 : wf1.cell? ⟨b0, 1, none⟩ = some (.slice A0_1 nL0 c0_1) := (blk_cell BK0.out 1).trans rfl
              have q02 : wf1.cell? ⟨b0, 2, none⟩ = some s0 := (blk_cell BK0.out 2).trans rfl
              have q10 : wf1.cell? ⟨b1, 0, none⟩ = some (.slice A1_0 nE1 c1_0) := (blk_cell BK1.out 0).trans rfl
              have q11 : wf1.cell? ⟨b1, 1, none⟩ = some (.slice A1_1 nL1 c1_1) := (blk_cell BK1.out 1).trans rfl
              have q12 : wf1.cell? ⟨b1, 2, none⟩ = some s1 := (blk_cell BK1.out 2).trans rfl
              have q20 : wf1.cell? ⟨b2, 0, none⟩ = some (.slice A2_0 nE2 c2_0) := (blk_cell BK2.out 0).trans rfl
              have q21 : wf1.cell? ⟨b2, 1, none⟩ = some (.slice A2_1 nL2 c2_1) := (blk_cell BK2.out 1).trans rfl
              have q22 : wf1.cell? ⟨b2, 2, none⟩ = some s2 := (blk_cell BK2.out 2).trans rfl
              have HX := Aside0.mk (HF2.out wf1 HB.out)
              go_wp2_with fail
              refine HX.out.mono ?_
              rintro e wf2 ⟨rfl, hb⟩
              clear HX
              have BK0_ := Aside0.mk ((hb.block _ (blk_lt BK0.out)).trans BK0.out)
              have BK1_ := Aside0.mk ((hb.block _ (blk_lt BK1.out)).trans BK1.out)
              have BK2_ := Aside0.mk ((hb.block _ (blk_lt BK2.out)).trans BK2.out)
              have HB_ := Aside0.mk (below_step HB.out hb)
              clear q00 q01 q02 q10 q11 q12 q20 q21 q22 BK0 BK1 BK2 HB  hb
              have BK0 := BK0_
              clear BK0_
              have BK1 := BK1_
              clear BK1_
              have BK2 := BK2_
              clear BK2_
              have HB := HB_
              clear HB_
              have q00 : wf2.cell? ⟨b0, 0, none⟩ = some (.slice A0_0 nE0 c0_0) := (blk_cell BK0.out 0).trans rfl
              have q01 : wf2.cell? ⟨b0, 1, none⟩ = some (.slice A0_1 nL0 c0_1) := (blk_cell BK0.out 1).trans rfl
              have q02 : wf2.cell? ⟨b0, 2, none⟩ = some s0 := (blk_cell BK0.out 2).trans rfl
              have q10 : wf2.cell? ⟨b1, 0, none⟩ = some (.slice A1_0 nE1 c1_0) := (blk_cell BK1.out 0).trans rfl
              have q11 : wf2.cell? ⟨b1, 1, none⟩ = some (.slice A1_1 nL1 c1_1) := (blk_cell BK1.out 1).trans rfl
              have q12 : wf2.cell? ⟨b1, 2, none⟩ = some s1 := (blk_cell BK1.out 2).trans rfl
              have q20 : wf2.cell? ⟨b2, 0, none⟩ = some (.slice A2_0 nE2 c2_0) := (blk_cell BK2.out 0).trans rfl
              have q21 : wf2.cell? ⟨b2, 1, none⟩ = some (.slice A2_1 nL2 c2_1) := (blk_cell BK2.out 1).trans rfl
              have q22 : wf2.cell? ⟨b2, 2, none⟩ = some s2 := (blk_cell BK2.out 2).trans rfl
              clear HF0 HF1 HF2
              have HX := Aside0.mk (HCA2.out wf2 HB.out)
              go_wp2_with fail
              refine HX.out.mono ?_
              rintro e wc1 ⟨rfl, hb⟩
              clear HX HCA2
              have BK0_ := Aside0.mk ((hb.block _ (blk_lt BK0.out)).trans BK0.out)
              have BK1_ := Aside0.mk ((hb.block _ (blk_lt BK1.out)).trans BK1.out)
              have BK2_ := Aside0.mk ((hb.block _ (blk_lt BK2.out)).trans BK2.out)
              have HB_ := Aside0.mk (below_step HB.out hb)
              clear q00 q01 q02 q10 q11 q12 q20 q21 q22 BK0 BK1 BK2 HB  hb
              have BK0 := BK0_
              clear BK0_
              have BK1 := BK1_
              clear BK1_
              have BK2 := BK2_
              clear BK2_
              have HB := HB_
              clear HB_
              have q00 : wc1.cell? ⟨b0, 0, none⟩ = some (.slice A0_0 nE0 c0_0) := (blk_cell BK0.out 0).trans rfl
              have q01 : wc1.cell? ⟨b0, 1, none⟩ = some (.slice A0_1 nL0 c0_1) := (blk_cell BK0.out 1).trans rfl
              have q02 : wc1.cell? ⟨b0, 2, none⟩ = some s0 := (blk_cell BK0.out 2).trans rfl
              have q10 : wc1.cell? ⟨b1, 0, none⟩ = some (.slice A1_0 nE1 c1_0) := (blk_cell BK1.out 0).trans rfl
              have q11 : wc1.cell? ⟨b1, 1, none⟩ = some (.slice A1_1 nL1 c1_1) := (blk_cell BK1.out 1).trans rfl
              have q12 : wc1.cell? ⟨b1, 2, none⟩ = some s1 := (blk_cell BK1.out 2).trans rfl
              have q20 : wc1.cell? ⟨b2, 0, none⟩ = some (.slice A2_0 nE2 c2_0) := (blk_cell BK2.out 0).trans rfl
              have q21 : wc1.cell? ⟨b2, 1, none⟩ = some (.slice A2_1 nL2 c2_1) := (blk_cell BK2.out 1).trans rfl
              have q22 : wc1.cell? ⟨b2, 2, none⟩ = some s2 := (blk_cell BK2.out 2).trans rfl
              cases c1 with
              | false =>
                have HX := Aside0.mk (HAL.out wc1)
                go_wp2_with fail
                refine HX.out.mono ?_
                rintro e w2 ⟨rfl, hb⟩
                have HB2 := Aside0.mk (below_step HB.out hb)
                clear hb HX
                go_wp2
                go_ret
                exact ⟨rfl, HB2.out⟩
              | true =>
                have HX := Aside0.mk (HCB2.out wc1 HB.out)
                go_wp2_with fail
                refine HX.out.mono ?_
                rintro e wc2 ⟨rfl, hb⟩
                clear HX HCB2
                have BK0_ := Aside0.mk ((hb.block _ (blk_lt BK0.out)).trans BK0.out)
                have BK1_ := Aside0.mk ((hb.block _ (blk_lt BK1.out)).trans BK1.out)
                have BK2_ := Aside0.mk ((hb.block _ (blk_lt BK2.out)).trans BK2.out)
                have HB_ := Aside0.mk (below_step HB.out hb)
                clear q00 q01 q02 q10 q11 q12 q20 q21 q22 BK0 BK1 BK2 HB  hb
                have BK0 := BK0_
                clear BK0_
                have BK1 := BK1_
                clear BK1_
                have BK2 := BK2_
                clear BK2_
                have HB := HB_
                clear HB_
                have q00 : wc2.cell? ⟨b0, 0, none⟩ = some (.slice A0_0 nE0 c0_0) := (blk_cell BK0.out 0).trans rfl
                have q01 : wc2.cell? ⟨b0, 1, none⟩ = some (.slice A0_1 nL0 c0_1) := (blk_cell BK0.out 1).trans rfl
                have q02 : wc2.cell? ⟨b0, 2, none⟩ = some s0 := (blk_cell BK0.out 2).trans rfl
                have q10 : wc2.cell? ⟨b1, 0, none⟩ = some (.slice A1_0 nE1 c1_0) := (blk_cell BK1.out 0).trans rfl
                have q11 : wc2.cell? ⟨b1, 1, none⟩ = some (.slice A1_1 nL1 c1_1) := (blk_cell BK1.out 1).trans rfl
                have q12 : wc2.cell? ⟨b1, 2, none⟩ = some s1 := (blk_cell BK1.out 2).trans rfl
                have q20 : wc2.cell? ⟨b2, 0, none⟩ = some (.slice A2_0 nE2 c2_0) := (blk_cell BK2.out 0).trans rfl
                have q21 : wc2.cell? ⟨b2, 1, none⟩ = some (.slice A2_1 nL2 c2_1) := (blk_cell BK2.out 1).trans rfl
                have q22 : wc2.cell? ⟨b2, 2, none⟩ = some s2 := (blk_cell BK2.out 2).trans rfl
                cases c2 with
                | false =>
                  have HX := Aside0.mk (HAL.out wc2)
                  go_wp2_with fail
                  refine HX.out.mono ?_
                  rintro e w2 ⟨rfl, hb⟩
                  have HB2 := Aside0.mk (below_step HB.out hb)
                  clear hb HX
                  go_wp2
                  go_ret
                  exact ⟨rfl, HB2.out⟩
                | true =>
                  have HEDGE := Aside0.mk (fun (o : Nat) (ho : o < l3.length) (h0 : 0 ≤ rd (l3.map (thenX l4)) (o : Int)) => on_edges hc1 hc2 o ho h0)
                  have HLINK := Aside0.mk (fun (p : PP) (hp : p ∈ l0_1) => on_links hc1 hc2 p hp)
                  clear hc1 hc2
                  obtain ⟨t, ht⟩ : ∃ t, l3.map (thenX l4) = t := ⟨_, rfl⟩
                  have HTL := Lib.hid (show t.length = n3 by rw [← ht, List.length_map]; exact HN3.out)
                  rw [ht] at HTH2 HEDGE HLINK
                  rw [HN3.out] at HEDGE HLINK
                  clear ht
                  have HX := Aside0.mk (HTH2.out wc2 HB.out)
                  go_wp2_with fail
                  refine HX.out.mono ?_
                  rintro e wt ⟨v20, rfl, ho, hb⟩
                  obtain ⟨AT, cT, rfl⟩ := Kd.R_slice ho
                  obtain ⟨-, hcT, hCT⟩ := Kd.R_reads' ho
                  rw [HTL.out] at hCT hcT
                  rw [HTL.out]
                  have HCT := Aside0.mk hCT
                  clear ho hCT HX HTH2
                  have BK0_ := Aside0.mk ((hb.block _ (blk_lt BK0.out)).trans BK0.out)
                  have BK1_ := Aside0.mk ((hb.block _ (blk_lt BK1.out)).trans BK1.out)
                  have BK2_ := Aside0.mk ((hb.block _ (blk_lt BK2.out)).trans BK2.out)
                  have HB_ := Aside0.mk (below_step HB.out hb)
                  clear q00 q01 q02 q10 q11 q12 q20 q21 q22 BK0 BK1 BK2 HB  hb
                  have BK0 := BK0_
                  clear BK0_
                  have BK1 := BK1_
                  clear BK1_
                  have BK2 := BK2_
                  clear BK2_
                  have HB := HB_
                  clear HB_
                  have q00 : wt.cell? ⟨b0, 0, none⟩ = some (.slice A0_0 nE0 c0_0) := (blk_cell BK0.out 0).trans rfl
                  have q01 : wt.cell? ⟨b0, 1, none⟩ = some (.slice A0_1 nL0 c0_1) := (blk_cell BK0.out 1).trans rfl
                  have q02 : wt.cell? ⟨b0, 2, none⟩ = some s0 := (blk_cell BK0.out 2).trans rfl
                  have q10 : wt.cell? ⟨b1, 0, none⟩ = some (.slice A1_0 nE1 c1_0) := (blk_cell BK1.out 0).trans rfl
                  have q11 : wt.cell? ⟨b1, 1, none⟩ = some (.slice A1_1 nL1 c1_1) := (blk_cell BK1.out 1).trans rfl
                  have q12 : wt.cell? ⟨b1, 2, none⟩ = some s1 := (blk_cell BK1.out 2).trans rfl
                  have q20 : wt.cell? ⟨b2, 0, none⟩ = some (.slice A2_0 nE2 c2_0) := (blk_cell BK2.out 0).trans rfl
                  have q21 : wt.cell? ⟨b2, 1, none⟩ = some (.slice A2_1 nL2 c2_1) := (blk_cell BK2.out 1).trans rfl
                  have q22 : wt.cell? ⟨b2, 2, none⟩ = some s2 := (blk_cell BK2.out 2).trans rfl
                  have HE0t := Aside0.mk (Kd.C_below HE0.out HB.out)
                  have HL0t := Aside0.mk (Kd.C_below HL0.out HB.out)
                  have HE2t := Aside0.mk (Kd.C_below HE2.out HB.out)
                  clear HE0 HL0 HE2 e3 e3' e4 e4' h4
                  go_wp2_with fail
                  clear q00 q01 q02 q10 q11 q12 q20 q21 q22
                  go_loopg [12, 13, 60] n3 (fun gg _ _ s60 wr => ∃ j : Nat, s60 = .int .i64 j ∧ j ≤ n3 ∧ n3 - j ≤ gg ∧ Aside0 (Below wt.heap.size wt wr))
                  case atStart => exact ⟨0, rfl, by omega, by omega, ⟨Below.refl _ _⟩⟩
                  case round =>
                    obtain ⟨j, rfl, hj, hgj, HBZ⟩ := hrel
                    by_cases hlt : j < n3
                    · have hltz : (j : Int) < (n3 : Int) := by omega
                      obtain ⟨adT, eT, hx0⟩ := Kd.at_int (Kd.C_below HCT.out HBZ.out) (j : Int) (by omega) (by first | omega | (rw [HTL.out]; omega))
                      cases eT
                      rw [Int.toNat_natCast] at hx0
                      by_cases hto : 0 ≤ rd t (j : Int)
                      · obtain ⟨g1, g2, ⟨g3, g4⟩, g5⟩ := HEDGE.out j (by omega) hto
                        rw [HNE2.out] at g1
                        rw [HNE0.out] at g2
                        obtain ⟨adG, eG, hx1⟩ := Kd.at_int (Kd.C_below HE0t.out HBZ.out) (j : Int) (by omega) (by first | omega | (rw [HNE0.out]; omega))
                        cases eG
                        rw [Int.toNat_natCast] at hx1
                        obtain ⟨adI, eI, hx3⟩ := Kd.at_int (Kd.C_below HE2t.out HBZ.out) (rd t (j : Int)) hto (by first | omega | (rw [HNE2.out]; omega))
                        cases eI
                        obtain ⟨_, eT, hx2⟩ := Kd.at_int (Kd.C_below HCT.out HBZ.out) (rd l0_0 (j : Int)) g3 (by first | omega | (rw [HTL.out]; omega))
                        cases eT
                        rw [← g5] at hx3
                        clear g5
                        generalize rd t (rd l0_0 (j : Int)) = tv at hx2 hx3
                        generalize rd t (j : Int) = to_ at hx0 hx3 hto g1
                        generalize rd l0_0 (j : Int) = e0 at hx1 hx2 g3 g4
                        have hto' : decide (0 ≤ to_) = true := decide_eq_true hto
                        have g1n : ¬ (nE2 : Int) ≤ to_ := by omega
                        have g1d : decide ((nE2 : Int) ≤ to_) = false := decide_eq_false g1n
                        have hjE : (j : Int) < (nE0 : Int) := by omega
                        have hj0 : (0 : Int) ≤ (j : Int) := by omega
                        have btv : (tv == tv) = true := beq_self_eq_true tv
                        have BZ0 := (HBZ.out.block _ (blk_lt BK0.out)).trans BK0.out
                        have BZ2 := (HBZ.out.block _ (blk_lt BK2.out)).trans BK2.out
                        have q00 : wr.cell? ⟨b0, 0, none⟩ = some (.slice (some adG) nE0 c0_0) := (blk_cell BZ0 0).trans rfl
                        have q20 : wr.cell? ⟨b2, 0, none⟩ = some (.slice (some adI) nE2 c2_0) := (blk_cell BZ2 0).trans rfl
                        clear BZ0 BZ2
                        go_wp2_with fail
                        go_quiet (fail)
                        go_wp2_with fail
                        go_roundg (n3 - (j + 1))
                        case measure => omega
                        case rel => exact ⟨j + 1, by go_num, by omega, Nat.le_refl _, ⟨pw_below_drewN HBZ.out _⟩⟩
                      · generalize rd t (j : Int) = to_ at hx0 hto
                        have hto' : decide (0 ≤ to_) = false := decide_eq_false hto
                        have hj0 : (0 : Int) ≤ (j : Int) := by omega
                        go_wp2_with fail
                        go_quiet (fail)
                        go_wp2_with fail
                        go_roundg (n3 - (j + 1))
                        case measure => omega
                        case rel => exact ⟨j + 1, by go_num, by omega, Nat.le_refl _, ⟨pw_below_drewN HBZ.out _⟩⟩
                    · have hltz : ¬ (j : Int) < (n3 : Int) := by omega
                      clear hlt hgj hj
                      have BK0_ := Aside0.mk ((HBZ.out.block _ (blk_lt BK0.out)).trans BK0.out)
                      have BK2_ := Aside0.mk ((HBZ.out.block _ (blk_lt BK2.out)).trans BK2.out)
                      have HB_ := Aside0.mk (below_step HB.out HBZ.out)
                      have HCT_ := Aside0.mk (Kd.C_below HCT.out HBZ.out)
                      have HL0_ := Aside0.mk (Kd.C_below HL0t.out HBZ.out)
                      clear BK0 BK1 BK2 HB HCT HL0t HE0t HE2t HBZ HEDGE
                      obtain ⟨wq, rfl⟩ : ∃ wq, wq = wr := ⟨_, rfl⟩
                      have q01 : wq.cell? ⟨b0, 1, none⟩ = some (.slice A0_1 nL0 c0_1) := (blk_cell BK0_.out 1).trans rfl
                      go_wp2_with fail
                      clear q01
                      go_loopg [15, 16, 17, 94] nL0 (fun gg _ _ _ s94 wr => ∃ j : Nat, s94 = .int .i64 j ∧ j ≤ nL0 ∧ nL0 - j ≤ gg ∧ Aside0 (Below wq.heap.size wq wr))
                      case atStart => exact ⟨0, rfl, by omega, by omega, ⟨Below.refl _ _⟩⟩
                      case round =>
                        obtain ⟨i, rfl, hi, hgi, HBY⟩ := hrel
                        by_cases hlt : i < nL0
                        · have hltz : (i : Int) < (nL0 : Int) := by omega
                          obtain ⟨ad1, ead1, hx0, hx1⟩ := at_T34 (Kd.C_below HL0_.out HBY.out) (i : Int) (by omega) (by rw [HNL0.out]; omega)
                          rw [Int.toNat_natCast] at hx0 hx1
                          cases ead1
                          have hmem : rd_T34 l0_1 (i : Int) ∈ l0_1 := by rw [rdP_nat l0_1 i (by rw [HNL0.out]; exact hlt)]; exact List.getElem_mem _
                          obtain ⟨⟨p0, p1⟩, ⟨p2, p3⟩, p4⟩ := HLINK.out _ hmem
                          clear hmem
                          generalize rd_T34 l0_1 (i : Int) = x at hx0 hx1 p0 p1 p2 p3 p4
                          obtain ⟨pp, pq⟩ := x
                          dsimp only at hx0 hx1 p0 p1 p2 p3 p4
                          have HCTz := Aside0.mk (Kd.C_alloc (Kd.C_below HCT_.out HBY.out) (.cells #[.int .i64 pp, .int .i64 pq] 34))
                          obtain ⟨adT, eT, hy0⟩ := Kd.at_int HCTz.out pp p0 (by first | omega | (rw [HTL.out]; omega))
                          cases eT
                          obtain ⟨_, eT, hy1⟩ := Kd.at_int HCTz.out pq p2 (by first | omega | (rw [HTL.out]; omega))
                          cases eT
                          generalize rd t pp = ta at hy0 p4
                          generalize rd t pq = tb at hy1 p4
                          have HBX := Aside0.mk (below_alloc HBY.out (.cells #[.int .i64 pp, .int .i64 pq] 34))
                          have hz0 : (wr.alloc (.cells #[.int .i64 pp, .int .i64 pq] 34)).heap[wr.heap.size]? = some (.cells #[.int .i64 pp, .int .i64 pq] 34 (0, 0)) := blk_new wr _
                          have HZ0 := Aside0.mk hz0
                          have q21 : (wr.alloc (.cells #[.int .i64 pp, .int .i64 pq] 34)).cell? ⟨b2, 1, none⟩ = some (.slice A2_1 nL2 c2_1) := (blk_cell ((HBX.out.block _ (blk_lt BK2_.out)).trans BK2_.out) 1).trans rfl
                          have HQ21 := Aside0.mk q21
                          have h4 := Aside0.mk p4
                          clear hz0 p4 q21 HBY
                          by_cases hta : 0 ≤ ta
                          · have hta' : decide (0 ≤ ta) = true := decide_eq_true hta
                            by_cases htb : 0 ≤ tb
                            · have htb' : decide (0 ≤ tb) = true := decide_eq_true htb
                              by_cases hab : ta = tb
                              · subst hab
                                have bab : (ta == ta) = true := beq_self_eq_true ta
                                go_wp2_with fail
                                go_quiet (fail)
                                go_wp2_with fail
                                go_roundg (nL0 - (i + 1))
                                case measure => omega
                                case rel => exact ⟨i + 1, by go_num, by omega, Nat.le_refl _, ⟨pw_below_drewN HBX.out _⟩⟩
                              · have hlink := h4.out hta htb hab
                                have bab : (ta == tb) = false := beq_eq_false_iff_ne.2 hab
                                have bab2 : (ta != tb) = true := by rw [bne, bab]; rfl
                                have bab3 : decide (ta = tb) = false := decide_eq_false hab
                                have bab4 : decide (ta ≠ tb) = true := decide_eq_true hab
                                have HLX := Aside0.mk (fun (W : World) (hb : Below w.heap.size w W) => HLK2.out W hb ta tb hlink)
                                clear hlink
                                have q21 := HQ21.out
                                go_wp2_with fail
                                go_quiet (fail)
                                go_wp2_with fail
                                refine (HLX.out _ (below_step HB_.out (pw_below_drewN HBX.out _))).mono ?_
                                rintro e w9 ⟨rfl, hb9⟩
                                have HB9 := Aside0.mk (below_step (pw_below_drewN HBX.out _) hb9)
                                clear hb9
                                go_wp2_with fail
                                go_roundg (nL0 - (i + 1))
                                case measure => omega
                                case rel => exact ⟨i + 1, by go_num, by omega, Nat.le_refl _, HB9⟩
                            · have htb' : decide (0 ≤ tb) = false := decide_eq_false htb
                              go_wp2_with fail
                              go_quiet (fail)
                              go_wp2_with fail
                              go_roundg (nL0 - (i + 1))
                              case measure => omega
                              case rel => exact ⟨i + 1, by go_num, by omega, Nat.le_refl _, ⟨pw_below_drewN HBX.out _⟩⟩
                          · have hta' : decide (0 ≤ ta) = false := decide_eq_false hta
                            go_wp2_with fail
                            go_quiet (fail)
                            go_wp2_with fail
                            go_roundg (nL0 - (i + 1))
                            case measure => omega
                            case rel => exact ⟨i + 1, by go_num, by omega, Nat.le_refl _, ⟨pw_below_drewN HBX.out _⟩⟩
                        · have hltz : ¬ (i : Int) < (nL0 : Int) := by omega
                          have HX := Aside0.mk (HAL.out wr)
                          have HBN := Aside0.mk (below_step HB_.out HBY.out)
                          go_wp2_with fail
                          refine HX.out.mono ?_
                          rintro e w2 ⟨rfl, hb⟩
                          have HB2 := Aside0.mk (below_step HBN.out hb)
                          clear hb HX
                          go_wp2
                          go_ret
                          exact ⟨rfl, HB2.out⟩
  · rw [if_neg hall] at h
    cases h
end Go.Proofs.Ythgjieigpfcekaa.QG
