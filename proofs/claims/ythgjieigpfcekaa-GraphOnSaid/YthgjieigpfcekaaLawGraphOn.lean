/- The row of GraphOn. -/
import Derived.Test.YthgjieigpfcekaaRows
import Derived.Test.YthgjieigpfcekaaQGx21
import Derived.Test.YthgjieigpfcekaaPureGraphOn
import Derived.Test.YthgjieigpfcekaaOpens
import Derived.Test.YthgjieigpfcekaaGrOpens
import Derived.WalkKit
import Derived.ProofKit
import Derived.OpenShut
import Derived.ShutString
import Derived.ChangeOld
import Derived.Below
import Derived.SizedLaws
import Derived.WideShapes
namespace Go.Proofs.Ythgjieigpfcekaa.graphOn
open Go.ChangeShapes Go.WideShapes Go.ChangeAt Go.RowKit
open Go.ChangeMaps (open_string shut_string)
open Go.Proofs.YthgjieigpfcekaaW.PrintWords
set_option linter.unusedVariables false
theorem laidOut : laidOutB Try.prog = true := by kernel_rfl
theorem own : ownKnob Try.prog.godebug = none := by kernel_rfl
set_option maxRecDepth 100000 in
theorem lifted (os : Os) (started : os.Started) (H : Type) (enc : TypeId × Value → H) :
    ReturnsInHanded {} Try.checked os 9 .any (Rows.graphOnSpec.pre6 enc Try.prog Try.f9 Rows.graphOnRow.domain false) (Rows.graphOnSpec.post enc Try.prog Try.f9 false true false false) := by
  refine returnsInHanded_of_change_sized (C := Try.checked) own started (by kernel_rfl) Try.func9
    (ChangeSpec.witness6 (enc := enc) (C := Try.checked) false ⟨#[], #[.agg #[.slice none 0 0, .slice none 0 0, .slice none 0 0], .agg #[.slice none 0 0, .slice none 0 0, .slice none 0 0], .agg #[.slice none 0 0, .slice none 0 0, .slice none 0 0], .slice none 0 0, .slice none 0 0], []⟩ 8 (by kernel_rfl) (by kernel_rfl) (by kernel_rfl) (by kernel_rfl)) ?_
  intro W base args ds gs before hval0 hW hcnd hsz0 _
  have hsz : (DataW.weightsEach Try.prog (Try.f9.params.toList ++ Rows.graphOnSpec.plain.varTypes Try.prog) (ds ++ gs)).all (· ≤ reachBytes) = true := hsz0
  have hval : ∀ (j : Nat) t v, Try.f9.params[j]? = some t → args[j]? = some v → Value.okWide Try.prog W .any base t v := hval0
  have hW' := hW
  obtain ⟨p, q, hA0, hV, rfl, hfz, hnd⟩ := hW
  have hA : DataW.TrodAll enc Try.prog W 0 (fun _ => true) true Try.f9.params.toList args.toList ds p := hA0
  rw [Try.params9] at hA hval hsz
  obtain ⟨v0, vs0, d0, ds0, p0, q0, hargs, rfl, rfl, h0, r0⟩ := trodAll_cons hA
  obtain ⟨v1, vs1, d1, ds1, p1, q1, rfl, rfl, rfl, h1, r1⟩ := trodAll_cons r0
  obtain ⟨v2, vs2, d2, ds2, p2, q2, rfl, rfl, rfl, h2, r2⟩ := trodAll_cons r1
  obtain ⟨v3, vs3, d3, ds3, p3, q3, rfl, rfl, rfl, h3, r3⟩ := trodAll_cons r2
  obtain ⟨v4, vs4, d4, ds4, p4, q4, rfl, rfl, rfl, h4, r4⟩ := trodAll_cons r3
  obtain ⟨rfl, rfl, rfl⟩ := trodAll_nil r4
  obtain rfl : args = #[v0, v1, v2, v3, v4] := by cases args; simp_all
  obtain ⟨rfl, rfl⟩ := trodVars_none hV
  have k0 := h0
  have lt0 : ∀ x ∈ p0, x.block < W.heap.size := by obtain ⟨m, hm⟩ := k0; exact DataW.trod_lt m _ _ _ hm
  obtain ⟨x0, hk0, g0⟩ := (Op.o_graph).one h0
  obtain ⟨cs0, rfl, hs0⟩ := okWide_struct Try.underlying51 (hval 0 51 v0 rfl rfl)
  obtain ⟨A0_0, c0_0, A0_1, c0_1, A0_2, c0_2, hv0, hc0_0, hr0_0, hc0_1, hr0_1, hc0_2, hr0_2⟩ := QG.k51_open hk0
  obtain rfl : cs0 = #[.slice A0_0 x0.f0.length c0_0, .slice A0_1 x0.f1.length c0_1, .slice A0_2 x0.f2.length c0_2] := by cases cs0; simpa [Value.cells] using hv0
  have k1 := h1
  have lt1 : ∀ x ∈ p1, x.block < W.heap.size := by obtain ⟨m, hm⟩ := k1; exact DataW.trod_lt m _ _ _ hm
  obtain ⟨x1, hk1, g1⟩ := (Op.o_graph).one h1
  obtain ⟨cs1, rfl, hs1⟩ := okWide_struct Try.underlying51 (hval 1 51 v1 rfl rfl)
  obtain ⟨A1_0, c1_0, A1_1, c1_1, A1_2, c1_2, hv1, hc1_0, hr1_0, hc1_1, hr1_1, hc1_2, hr1_2⟩ := QG.k51_open hk1
  obtain rfl : cs1 = #[.slice A1_0 x1.f0.length c1_0, .slice A1_1 x1.f1.length c1_1, .slice A1_2 x1.f2.length c1_2] := by cases cs1; simpa [Value.cells] using hv1
  have k2 := h2
  have lt2 : ∀ x ∈ p2, x.block < W.heap.size := by obtain ⟨m, hm⟩ := k2; exact DataW.trod_lt m _ _ _ hm
  obtain ⟨x2, hk2, g2⟩ := (Op.o_graph).one h2
  obtain ⟨cs2, rfl, hs2⟩ := okWide_struct Try.underlying51 (hval 2 51 v2 rfl rfl)
  obtain ⟨A2_0, c2_0, A2_1, c2_1, A2_2, c2_2, hv2, hc2_0, hr2_0, hc2_1, hr2_1, hc2_2, hr2_2⟩ := QG.k51_open hk2
  obtain rfl : cs2 = #[.slice A2_0 x2.f0.length c2_0, .slice A2_1 x2.f1.length c2_1, .slice A2_2 x2.f2.length c2_2] := by cases cs2; simpa [Value.cells] using hv2
  have k3 := h3
  have lt3 : ∀ x ∈ p3, x.block < W.heap.size := by obtain ⟨m, hm⟩ := k3; exact DataW.trod_lt m _ _ _ hm
  obtain ⟨x3, hk3, g3⟩ := (Op.o_ints).one h3
  obtain ⟨A3, len3, c3, rfl⟩ := okWide_slice Try.underlying24 (hval 3 24 v3 rfl rfl)
  obtain ⟨A3_, c3_, hv3, hc3, hr3⟩ := hk3
  simp only [Value.cells, List.cons.injEq, Value.slice.injEq, and_true] at hv3
  obtain ⟨rfl, rfl, rfl⟩ := hv3
  have k4 := h4
  have lt4 : ∀ x ∈ p4, x.block < W.heap.size := by obtain ⟨m, hm⟩ := k4; exact DataW.trod_lt m _ _ _ hm
  obtain ⟨x4, hk4, g4⟩ := (Op.o_ints).one h4
  obtain ⟨A4, len4, c4, rfl⟩ := okWide_slice Try.underlying24 (hval 4 24 v4 rfl rfl)
  obtain ⟨A4_, c4_, hv4, hc4, hr4⟩ := hk4
  simp only [Value.cells, List.cons.injEq, Value.slice.injEq, and_true] at hv4
  obtain ⟨rfl, rfl, rfl⟩ := hv4
  clear hA0 hval0 hsz0 hsz
  obtain ⟨k, hP⟩ := Pure.GraphOn x0 x1 x2 x3 x4 g0 g1 g2 g3 g4
  refine (QG.oriellaw15_GraphOn.calls k A0_0 c0_0 x0.f0 A0_1 c0_1 x0.f1 A0_2 c0_2 x0.f2 A1_0 c1_0 x1.f0 A1_1 c1_1 x1.f1 A1_2 c1_2 x1.f2 A2_0 c2_0 x2.f0 A2_1 c2_1 x2.f1 A2_2 c2_2 x2.f2 A3 c3 x3 A4 c4 x4 true W hr0_0 hc0_0 hr0_1 hc0_1 hr0_2 hc0_2 hr1_0 hc1_0 hr1_1 hc1_1 hr1_2 hc1_2 hr2_0 hc2_0 hr2_1 hc2_1 hr2_2 hc2_2 hr3 hc3 hr4 hc4 hP).mono fun e W' ⟨he, bel⟩ => ?_
  subst he
  exact ⟨_, rfl, _, _, _, [], _, [], hW', trodAll_mk1 (shut_bool Try.underlying4 _), (trodAll_cons_mk (Below.trod laidOut (by kernel_rfl) (of_decide_eq_true (by kernel_rfl)) k0 bel lt0) (trodAll_cons_mk (Below.trod laidOut (by kernel_rfl) (of_decide_eq_true (by kernel_rfl)) k1 bel lt1) (trodAll_cons_mk (Below.trod laidOut (by kernel_rfl) (of_decide_eq_true (by kernel_rfl)) k2 bel lt2) (trodAll_cons_mk (Below.trod laidOut (by kernel_rfl) (of_decide_eq_true (by kernel_rfl)) k3 bel lt3) (trodAll_cons_mk (Below.trod laidOut (by kernel_rfl) (of_decide_eq_true (by kernel_rfl)) k4 bel lt4) trodAll_mk0))))), rfl, bel.frame _, fun h => by cases h⟩
theorem over : Rows.graphOnRow.holds Try.pinned (OpenSpec.ofChange Rows.graphOnSpec) :=
  OpenClaim.holds_of_wide 9 Try.f9 rfl rfl rfl rfl rfl rfl rfl ⟨rfl, rfl, rfl, rfl, rfl⟩ rfl rfl rfl rfl rfl (by kernel_rfl) Try.func9 (by kernel_rfl)
    (of_decide_eq_true (by kernel_rfl)) (by unfold Func.isWrapper; first | (rw [if_pos (by decide +kernel)]; kernel_rfl) | (rw [if_neg (by decide +kernel)]; exact ⟨rfl, rfl⟩))
    (fun os started H enc _ => lifted os started H enc)
theorem proved : Rows.GraphOnSaid := over
#print axioms proved
end Go.Proofs.Ythgjieigpfcekaa.graphOn
namespace Go.Proofs.Ythgjieigpfcekaa
/-- The row, under a short name, for the claim. -/
theorem graphOn_holds : Rows.GraphOnSaid := graphOn.proved
end Go.Proofs.Ythgjieigpfcekaa
