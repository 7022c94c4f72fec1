/- The law MatchOn: an environment matches itself, without links; what matches one that matches another one matches that, too.
The condition: what comes in is of bulk at most 1048576. -/
import Derived.Test.YtfmbfnjlennfoaaRows
import Derived.Test.YtfmbfnjlennfoaaQNx23
import Derived.Test.YtfmbfnjlennfoaaNtEv
import Derived.Test.YtfmbfnjlennfoaaNtOpens
import Derived.WalkKit
import Derived.ProofKit
import Derived.OpenShut
import Derived.ChangeOld
import Derived.Below
import Derived.SizedLaws
import Derived.WideShapes
import Derived.JoinedCond
namespace Go.Proofs.Ytfmbfnjlennfoaa.matchOn
open Go.ChangeShapes Go.WideShapes Go.ChangeAt Go.RowKit
open Go.Proofs.YtfmbfnjlennfoaaW.PrintWords Go.Proofs.Ytfmbfnjlennfoaa.QN Go.Proofs.Ytfmbfnjlennfoaa.Nt
set_option linter.unusedVariables false
theorem laidOut : laidOutB Try.prog = true := by kernel_rfl
theorem own : ownKnob Try.prog.godebug = none := by kernel_rfl

theorem few3 (a b c : List BB) (h1 : szL a ≤ 4000000) (h2 : szL b ≤ 4000000) (h3 : szL c ≤ 4000000) : ∃ (k : Nat) (r0 r1 r2 : Bool), oriellaw12_few.f k a = some r0 ∧ oriellaw12_few.f k b = some r1 ∧ oriellaw12_few.f k c = some r2 ∧ oriellaw12_alive.f k = some true := by
  obtain ⟨r0, K0, e0⟩ := few_ev a h1
  obtain ⟨r1, K1, e1⟩ := few_ev b h2
  obtain ⟨r2, K2, e2⟩ := few_ev c h3
  obtain ⟨K3, e3⟩ := alive12
  exact ⟨K0 + K1 + K2 + K3, r0, r1, r2, e0 _ (by omega), e1 _ (by omega), e2 _ (by omega), e3 _ (by omega)⟩
theorem one (m : Nat) (s H : List BB) (o : okLB s) (h1 : szL s ≤ 4000000) (hm : szL s < m) : ∃ (res : List PP × Option BB), mB m s H = some res ∧ MatchedTo Try.prog (mkL .nil s) (mkL .nil H) (if (told res).2.isNone = true then (told res).1 else []) ((told res).2.getD (0, ⟨#[]⟩)).1 ((told res).2.getD (0, ⟨#[]⟩)).2 (told res).2.isNone := by
  obtain ⟨res, hr⟩ := mB_some m s H hm
  have hl := mB_len _ _ _ _ hr
  have hl2 : (told res).1.length ≤ 4000000 := by show res.1.length ≤ _; omega
  exact ⟨res, hr, matchedTo (match_mk m s H res h1 hr) (okL_mk s .nil o trivial) hl2⟩
theorem told_none (res : List PP × Option BB) : (told res).2.isNone = true ↔ res.2 = none := by
  obtain ⟨l, m⟩ := res
  cases m <;> simp [told]
/-- The law's own function, at any three lists. -/
theorem runs (A0 : Option Addr) (c0 : Nat) (l0 : List BB) (A1 : Option Addr) (c1 : Nat) (l1 : List BB) (A2 : Option Addr) (c2 : Nat) (l2 : List BB) (w : World) (hr0 : Kd.C k33 w A0 l0.length l0) (hc0 : l0.length ≤ c0) (hr1 : Kd.C k33 w A1 l1.length l1) (hc1 : l1.length ≤ c1) (hr2 : Kd.C k33 w A2 l2.length l2) (hc2 : l2.length ≤ c2) (o0 : okLB l0) (o1 : okLB l1) (o2 : okLB l2) (z0 : szL l0 ≤ 4000000) (z1 : szL l1 ≤ 4000000) (z2 : szL l2 ≤ 4000000) :
    Calls Try.prog 4 #[.slice A0 l0.length c0, .slice A1 l1.length c1, .slice A2 l2.length c2] w fun e w' => e = .returned (.bool true) ∧ Below w.heap.size w w' := by
  obtain ⟨k, r0, r1, r2, e0, e1, e2, e3⟩ := few3 l0 l1 l2 z0 z1 z2
  have hm0 : szL l0 < 4000001 := by omega
  have hm1 : szL l1 < 4000001 := by omega
  obtain ⟨s0, f0, g0⟩ := one 4000001 l0 l0 o0 z0 hm0
  obtain ⟨s1, f1, g1⟩ := one 4000001 l0 l1 o0 z0 hm0
  obtain ⟨s2, f2, g2⟩ := one 4000001 l1 l2 o1 z1 hm1
  obtain ⟨s3, f3, g3⟩ := one 4000001 l0 l2 o0 z0 hm0
  obtain rfl := mB_self _ l0 s0 f0
  exact oriellaw12_MatchOn.calls k A0 c0 l0 A1 c1 l1 A2 c2 l2 w hr0 hc0 hr1 hc1 hr2 hc2 r0 r1 r2 e0 e1 e2 e3 _ _ g0 _ _ _ _ g1 _ _ _ _ g2 _ _ _ _ g3 (fun h1 h2 =>
    (told_none s3).2 ((mB_ok _ l0 l2 s3 f3).2 (okT_trans _ l0 l1 l2 ((mB_ok _ l0 l1 s1 f1).1 ((told_none s1).1 h1)) ((mB_ok _ l1 l2 s2 f2).1 ((told_none s2).1 h2)))))

set_option maxRecDepth 100000 in
theorem lifted (os : Os) (started : os.Started) (H : Type) (enc : TypeId × Value → H) (F : Stop.Interp) :
    ReturnsInHanded {} Try.checked os 4 .any ((Rows.OpenSpec.upto Rows.matchOnSpec).pre6 enc Try.prog Try.f4 Rows.matchOnUptoRow.domain false) (((Rows.OpenSpec.upto Rows.matchOnSpec).at F).post enc Try.prog Try.f4 false true false false) := by
  refine returnsInHanded_of_cond (C := Try.checked) (s := Rows.OpenSpec.upto Rows.matchOnSpec) (k := Rows.uptoSmall) rfl own started (by kernel_rfl) Try.func4
    (OpenSpec.witness (enc := enc) (C := Try.checked) (s := Rows.OpenSpec.upto Rows.matchOnSpec) (k := Rows.uptoSmall) rfl false ⟨#[], #[.slice none 0 0, .slice none 0 0, .slice none 0 0], []⟩ 8 (by kernel_rfl) (by kernel_rfl) (by kernel_rfl)
      (x := ([.nil, .nil, .nil], [], [])) (by kernel_rfl) rfl (by kernel_rfl)) ?_
  intro W base args ds gs before hval0 hW _ hk _
  have hval : ∀ (j : Nat) t v, Try.f4.params[j]? = some t → args[j]? = some v → Value.okWide Try.prog W .any base t v := hval0
  have hW' := hW
  obtain ⟨p, q, hA0, hV, rfl, hfz, hnd⟩ := hW
  have hA : DataW.TrodAll enc Try.prog W 0 (fun _ => true) true Try.f4.params.toList args.toList ds p := hA0
  rw [Try.params4] at hA hval
  obtain ⟨v0, vs0, d0, ds0, p0, q0, hargs, rfl, rfl, h0, r0⟩ := trodAll_cons hA
  obtain ⟨v1, vs1, d1, ds1, p1, q1, rfl, rfl, rfl, h1, r1⟩ := trodAll_cons r0
  obtain ⟨v2, vs2, d2, ds2, p2, q2, rfl, rfl, rfl, h2, r2⟩ := trodAll_cons r1
  obtain ⟨rfl, rfl, rfl⟩ := trodAll_nil r2
  obtain rfl : args = #[v0, v1, v2] := by cases args; simp_all
  obtain ⟨rfl, rfl⟩ := trodVars_none hV
  have k0 := h0
  have lt0 : ∀ x ∈ p0, x.block < W.heap.size := by obtain ⟨m, hm⟩ := k0; exact DataW.trod_lt m _ _ _ hm
  obtain ⟨A0, len0, c0, rfl⟩ := okWide_slice Try.underlying22 (hval 0 22 v0 rfl rfl)
  obtain ⟨x0, A0_, c0_, hv0, hc0, hr0, o0, z0⟩ := binds_one h0
  simp only [Value.cells, List.cons.injEq, Value.slice.injEq, and_true] at hv0
  obtain ⟨rfl, rfl, rfl⟩ := hv0
  have k1 := h1
  have lt1 : ∀ x ∈ p1, x.block < W.heap.size := by obtain ⟨m, hm⟩ := k1; exact DataW.trod_lt m _ _ _ hm
  obtain ⟨A1, len1, c1, rfl⟩ := okWide_slice Try.underlying22 (hval 1 22 v1 rfl rfl)
  obtain ⟨x1, A1_, c1_, hv1, hc1, hr1, o1, z1⟩ := binds_one h1
  simp only [Value.cells, List.cons.injEq, Value.slice.injEq, and_true] at hv1
  obtain ⟨rfl, rfl, rfl⟩ := hv1
  have k2 := h2
  have lt2 : ∀ x ∈ p2, x.block < W.heap.size := by obtain ⟨m, hm⟩ := k2; exact DataW.trod_lt m _ _ _ hm
  obtain ⟨A2, len2, c2, rfl⟩ := okWide_slice Try.underlying22 (hval 2 22 v2 rfl rfl)
  obtain ⟨x2, A2_, c2_, hv2, hc2, hr2, o2, z2⟩ := binds_one h2
  simp only [Value.cells, List.cons.injEq, Value.slice.injEq, and_true] at hv2
  obtain ⟨rfl, rfl, rfl⟩ := hv2
  have hsmall : Rows.uptoBulkAll ([d0, d1, d2] ++ []) ≤ 1048576 := of_decide_eq_true hk
  simp only [List.cons_append, List.nil_append, Rows.uptoBulkAll] at hsmall
  clear hA0 hval0 hk
  refine (runs A0 c0 x0 A1 c1 x1 A2 c2 x2 W hr0 hc0 hr1 hc1 hr2 hc2 o0 o1 o2 (by omega) (by omega) (by omega)).mono fun e W' ⟨he, bel⟩ => ?_
  subst he
  exact ⟨_, rfl, _, _, _, [], _, [], hW', trodAll_mk1 (shut_bool Try.underlying4 _), (trodAll_cons_mk (Below.trod laidOut (by kernel_rfl) (of_decide_eq_true (by kernel_rfl)) k0 bel lt0) (trodAll_cons_mk (Below.trod laidOut (by kernel_rfl) (of_decide_eq_true (by kernel_rfl)) k1 bel lt1) (trodAll_cons_mk (Below.trod laidOut (by kernel_rfl) (of_decide_eq_true (by kernel_rfl)) k2 bel lt2) trodAll_mk0))), rfl, bel.frame _, fun h => by cases h⟩
theorem over : Rows.matchOnUptoRow.holds Try.pinned (Rows.OpenSpec.upto Rows.matchOnSpec) :=
  OpenClaim.holds_of_cond 4 Try.f4 rfl rfl rfl rfl rfl rfl rfl ⟨rfl, rfl, rfl, rfl, rfl⟩ rfl rfl rfl rfl rfl (by kernel_rfl) Try.func4 (by kernel_rfl)
    (of_decide_eq_true (by kernel_rfl)) (by unfold Func.isWrapper; first | (rw [if_pos (by decide +kernel)]; kernel_rfl) | (rw [if_neg (by decide +kernel)]; exact ⟨rfl, rfl⟩))
    (fun os started H enc _ F => lifted os started H enc F)
theorem proved : Rows.MatchOnUptoSaid := over
#print axioms proved
end Go.Proofs.Ytfmbfnjlennfoaa.matchOn
namespace Go.Proofs.Ytfmbfnjlennfoaa
/-- The row, under a short name, for the claim. -/
theorem matchOnUpto_holds : Rows.MatchOnUptoSaid := matchOn.proved
end Go.Proofs.Ytfmbfnjlennfoaa
