/- The law MatchTells: what is linked where a structure is held against a signature, or what it misses first, is as the document says.
The condition: what comes in is of bulk at most 1048576. -/
import Derived.Test.YtfmbfnjlennfoaaRows
import Derived.Test.YtfmbfnjlennfoaaQNx22
import Derived.Test.YtfmbfnjlennfoaaNtEv
import Derived.Test.YtfmbfnjlennfoaaNtOpens
import Derived.WalkKit
import Derived.ProofKit
import Derived.OpenShut
import Derived.ChangeOld
import Derived.Below
import Derived.SizedLaws
import Derived.WideShapes
import Derived.JoinedCond
namespace Go.Proofs.Ytfmbfnjlennfoaa.matchTells
open Go.ChangeShapes Go.WideShapes Go.ChangeAt Go.RowKit
open Go.Proofs.YtfmbfnjlennfoaaW.PrintWords Go.Proofs.Ytfmbfnjlennfoaa.QN Go.Proofs.Ytfmbfnjlennfoaa.Nt
set_option linter.unusedVariables false
theorem laidOut : laidOutB Try.prog = true := by kernel_rfl
theorem own : ownKnob Try.prog.godebug = none := by kernel_rfl

theorem pure (s H : List BB) (h1 : szL s ≤ 4000000) (h2 : szL H ≤ 4000000) : ∃ (k km : Nat) (r1 r2 : Bool) (res : List PP × Option BB), oriellaw12_few.f k s = some r1 ∧ oriellaw12_few.f k H = some r2 ∧ oriellaw12_alive.f k = some true ∧
    matchF km (mkL .nil s) (mkL .nil H) = some (told res) ∧ res.1.length ≤ 4000000 ∧ orielref12_Match.f k s H = some (rr [] res) ∧ orielref12_Pairs.f k (if res.2.isNone = true then res.1 else []) (if res.2.isNone = true then res.1 else []) = some true := by
  obtain ⟨r1, K1, e1⟩ := few_ev s h1
  obtain ⟨r2, K2, e2⟩ := few_ev H h2
  obtain ⟨K3, e3⟩ := alive12
  obtain ⟨res, hm⟩ := mB_some (szL s + 1) s H (Nat.lt_succ_self _)
  have hlen := mB_len _ _ _ _ hm
  obtain ⟨K4, e4⟩ := match_ev _ s H res h1 h2 hm
  obtain ⟨K5, e5⟩ := pairs_ev (if res.2.isNone = true then res.1 else []) (by split; omega; exact Nat.zero_le _)
  exact ⟨K1 + K2 + K3 + K4 + K5, szL s + 1, r1, r2, res, e1 _ (by omega), e2 _ (by omega), e3 _ (by omega), match_mk _ s H res h1 hm, by omega, e4 _ (by omega), e5 _ (by omega)⟩
theorem told_none (res : List PP × Option BB) : (told res).2.isNone = res.2.isNone := by
  obtain ⟨l, m⟩ := res
  cases m <;> rfl
/-- The law's own function, at any two lists. -/
theorem runs (A0 : Option Addr) (c0 : Nat) (l0 : List BB) (A1 : Option Addr) (c1 : Nat) (l1 : List BB) (w : World) (hr0 : Kd.C k33 w A0 l0.length l0) (hc0 : l0.length ≤ c0) (hr1 : Kd.C k33 w A1 l1.length l1) (hc1 : l1.length ≤ c1) (o0 : okLB l0) (o1 : okLB l1) (z0 : szL l0 ≤ 4000000) (z1 : szL l1 ≤ 4000000) :
    Calls Try.prog 3 #[.slice A0 l0.length c0, .slice A1 l1.length c1] w fun e w' => e = .returned (.bool true) ∧ Below w.heap.size w w' := by
  obtain ⟨k, km, r1, r2, res, e1, e2, e3, e4, e5, e6, e7⟩ := pure l0 l1 z0 z1
  obtain ⟨l, m⟩ := res
  cases m with
  | none => exact oriellaw12_MatchTells.calls k A0 c0 l0 A1 c1 l1 w hr0 hc0 hr1 hc1 r1 r2 e1 e2 e3 km l none e4 (okL_mk l0 .nil o0 trivial) e5 l rfl 0 ⟨#[]⟩ rfl true rfl 0 0 [] [] (by simpa [rr] using e6) (by simpa using e7)
  | some b => exact oriellaw12_MatchTells.calls k A0 c0 l0 A1 c1 l1 w hr0 hc0 hr1 hc1 r1 r2 e1 e2 e3 km l (some (keyB b)) e4 (okL_mk l0 .nil o0 trivial) e5 [] rfl b.f0 b.f1 rfl false rfl b.f2 b.f3 b.f4 b.f5 (by simpa [rr] using e6) (by simpa using e7)

set_option maxRecDepth 100000 in
theorem lifted (os : Os) (started : os.Started) (H : Type) (enc : TypeId × Value → H) (F : Stop.Interp) :
    ReturnsInHanded {} Try.checked os 3 .any ((Rows.OpenSpec.upto Rows.matchTellsSpec).pre6 enc Try.prog Try.f3 Rows.matchTellsUptoRow.domain false) (((Rows.OpenSpec.upto Rows.matchTellsSpec).at F).post enc Try.prog Try.f3 false true false false) := by
  refine returnsInHanded_of_cond (C := Try.checked) (s := Rows.OpenSpec.upto Rows.matchTellsSpec) (k := Rows.uptoSmall) rfl own started (by kernel_rfl) Try.func3
    (OpenSpec.witness (enc := enc) (C := Try.checked) (s := Rows.OpenSpec.upto Rows.matchTellsSpec) (k := Rows.uptoSmall) rfl false ⟨#[], #[.slice none 0 0, .slice none 0 0], []⟩ 8 (by kernel_rfl) (by kernel_rfl) (by kernel_rfl)
      (x := ([.nil, .nil], [], [])) (by kernel_rfl) rfl (by kernel_rfl)) ?_
  intro W base args ds gs before hval0 hW _ hk _
  have hval : ∀ (j : Nat) t v, Try.f3.params[j]? = some t → args[j]? = some v → Value.okWide Try.prog W .any base t v := hval0
  have hW' := hW
  obtain ⟨p, q, hA0, hV, rfl, hfz, hnd⟩ := hW
  have hA : DataW.TrodAll enc Try.prog W 0 (fun _ => true) true Try.f3.params.toList args.toList ds p := hA0
  rw [Try.params3] at hA hval
  obtain ⟨v0, vs0, d0, ds0, p0, q0, hargs, rfl, rfl, h0, r0⟩ := trodAll_cons hA
  obtain ⟨v1, vs1, d1, ds1, p1, q1, rfl, rfl, rfl, h1, r1⟩ := trodAll_cons r0
  obtain ⟨rfl, rfl, rfl⟩ := trodAll_nil r1
  obtain rfl : args = #[v0, v1] := by cases args; simp_all
  obtain ⟨rfl, rfl⟩ := trodVars_none hV
  have k0 := h0
  have lt0 : ∀ x ∈ p0, x.block < W.heap.size := by obtain ⟨m, hm⟩ := k0; exact DataW.trod_lt m _ _ _ hm
  obtain ⟨A0, len0, c0, rfl⟩ := okWide_slice Try.underlying22 (hval 0 22 v0 rfl rfl)
  obtain ⟨x0, A0_, c0_, hv0, hc0, hr0, o0, z0⟩ := binds_one h0
  simp only [Value.cells, List.cons.injEq, Value.slice.injEq, and_true] at hv0
  obtain ⟨rfl, rfl, rfl⟩ := hv0
  have k1 := h1
  have lt1 : ∀ x ∈ p1, x.block < W.heap.size := by obtain ⟨m, hm⟩ := k1; exact DataW.trod_lt m _ _ _ hm
  obtain ⟨A1, len1, c1, rfl⟩ := okWide_slice Try.underlying22 (hval 1 22 v1 rfl rfl)
  obtain ⟨x1, A1_, c1_, hv1, hc1, hr1, o1, z1⟩ := binds_one h1
  simp only [Value.cells, List.cons.injEq, Value.slice.injEq, and_true] at hv1
  obtain ⟨rfl, rfl, rfl⟩ := hv1
  have hsmall : Rows.uptoBulkAll ([d0, d1] ++ []) ≤ 1048576 := of_decide_eq_true hk
  simp only [List.cons_append, List.nil_append, Rows.uptoBulkAll] at hsmall
  clear hA0 hval0 hk
  refine (runs A0 c0 x0 A1 c1 x1 W hr0 hc0 hr1 hc1 o0 o1 (by omega) (by omega)).mono fun e W' ⟨he, bel⟩ => ?_
  subst he
  exact ⟨_, rfl, _, _, _, [], _, [], hW', trodAll_mk1 (shut_bool Try.underlying4 _), (trodAll_cons_mk (Below.trod laidOut (by kernel_rfl) (of_decide_eq_true (by kernel_rfl)) k0 bel lt0) (trodAll_cons_mk (Below.trod laidOut (by kernel_rfl) (of_decide_eq_true (by kernel_rfl)) k1 bel lt1) trodAll_mk0)), rfl, bel.frame _, fun h => by cases h⟩
theorem over : Rows.matchTellsUptoRow.holds Try.pinned (Rows.OpenSpec.upto Rows.matchTellsSpec) :=
  OpenClaim.holds_of_cond 3 Try.f3 rfl rfl rfl rfl rfl rfl rfl ⟨rfl, rfl, rfl, rfl, rfl⟩ rfl rfl rfl rfl rfl (by kernel_rfl) Try.func3 (by kernel_rfl)
    (of_decide_eq_true (by kernel_rfl)) (by unfold Func.isWrapper; first | (rw [if_pos (by decide +kernel)]; kernel_rfl) | (rw [if_neg (by decide +kernel)]; exact ⟨rfl, rfl⟩))
    (fun os started H enc _ F => lifted os started H enc F)
theorem proved : Rows.MatchTellsUptoSaid := over
#print axioms proved
end Go.Proofs.Ytfmbfnjlennfoaa.matchTells
namespace Go.Proofs.Ytfmbfnjlennfoaa
/-- The row, under a short name, for the claim. -/
theorem matchTellsUpto_holds : Rows.MatchTellsUptoSaid := matchTells.proved
end Go.Proofs.Ytfmbfnjlennfoaa
