-- Laid by this claim's own program (mprint.py in the repo).
import Derived.Test.YtfmbfnjlennfoaaQNx0
import Derived.Test.YtfmbfnjlennfoaaQNx5
import Derived.Test.YtfmbfnjlennfoaaQNx6
namespace Go.Proofs.Ytfmbfnjlennfoaa.QN
open Go.RowKit Go.Proofs.YtfmbfnjlennfoaaW.PrintWords Go.Proofs.YtfmbfnjlennfoaaW.PrintLast Go.Proofs.YtfmbfnjlennfoaaW.PrintMore
attribute [local go_sem] max2_int min2_int max_two min_two max_three min_three max_four min_four   -- for this text's walks alone
set_option linter.unusedVariables false
set_option linter.unusedSimpArgs false

abbrev bl9 := @World.block_lt_of_cell?
abbrev am9 {p : Prop} (h : p) : Aside0 p := ⟨h⟩
/-! ### orielref12_Match: function 9 -/
mutual
def orielref12_Match.l0 : Nat → List (S33) → List (S42) → List (S33) → Int → Option ((List (S42)) × Int × ByteArray × Int × Int × (List (S33)) × (List (S33)) × Bool)
 | 0, _, _, _, _ => none
 | k + 1, x1, x7, x8, x9 => if x9 < (x8.length : Int) then (if 0 ≤ x9 then ((orielref11_Find.f k x1 ((rd_T33 x8 x9).f0) ((rd_T33 x8 x9).f1)).bind fun t144 => (if t144 < 0 then (some (([] : List (S42)), (rd_T33 x8 x9).f0, (rd_T33 x8 x9).f1, (rd_T33 x8 x9).f2, (rd_T33 x8 x9).f3, (rd_T33 x8 x9).f4, (rd_T33 x8 x9).f5, false)) else (if 0 ≤ t144 then (if t144 < (x1.length : Int) then (if ((rd_T33 x8 x9).f2) = ((rd_T33 x1 t144).f2) then (orielref12_Match.j1 k x1 x7 x8 x9 t144) else (if x7.length < 8796093022208 then (orielref12_Match.j1 k x1 (x7 ++ [(⟨(rd_T33 x8 x9).f2, (rd_T33 x1 t144).f2⟩ : S42)]) x8 x9 t144) else (none))) else (none)) else (none)))) else (none)) else (some (x7, 0, (⟨#[]⟩ : ByteArray), 0, 0, ([] : List (S33)), ([] : List (S33)), true))
def orielref12_Match.j1 : Nat → List (S33) → List (S42) → List (S33) → Int → Int → Option ((List (S42)) × Int × ByteArray × Int × Int × (List (S33)) × (List (S33)) × Bool)
 | 0, _, _, _, _, _ => none
 | k + 1, x1, x7, x8, x9, x10 => if 0 ≤ x9 then (if x9 < (x8.length : Int) then (if ((rd_T33 x8 x9).f0) = 4 then (if 0 ≤ x10 then (if x10 < (x1.length : Int) then ((orielref12_Match.f k ((rd_T33 x8 x9).f4) ((rd_T33 x1 x10).f4)).bind fun bt156 => (if bt156.2.2.2.2.2.2.2 = true then (if x7.length + bt156.1.length < 8796093022208 then (orielref12_Match.l0 k x1 (x7 ++ bt156.1) x8 (wrap64 (x9 + 1))) else (none)) else (some (([] : List (S42)), bt156.2.1, bt156.2.2.1, bt156.2.2.2.1, bt156.2.2.2.2.1, bt156.2.2.2.2.2.1, bt156.2.2.2.2.2.2.1, false)))) else (none)) else (none)) else (orielref12_Match.l0 k x1 x7 x8 (wrap64 (x9 + 1)))) else (none)) else (none)
def orielref12_Match.f : Nat → List (S33) → List (S33) → Option ((List (S42)) × Int × ByteArray × Int × Int × (List (S33)) × (List (S33)) × Bool)
 | 0, _, _ => none
 | k + 1, l0, l1 => (orielref11_Visible.f k l0).bind fun t139 => (orielref12_Match.l0 k l1 ([] : List (S42)) t139 0)
end
theorem orielref12_Match.mono_l : ∀ k, (∀ y0 y1, LeO (orielref12_Match.f k y0 y1) (orielref12_Match.f (k + 1) y0 y1)) ∧ (∀ y0 y1 y2 y3, LeO (orielref12_Match.l0 k y0 y1 y2 y3) (orielref12_Match.l0 (k + 1) y0 y1 y2 y3)) ∧ (∀ y0 y1 y2 y3 y4, LeO (orielref12_Match.j1 k y0 y1 y2 y3 y4) (orielref12_Match.j1 (k + 1) y0 y1 y2 y3 y4))
 | 0 => ⟨fun _ _ r h => by simp [orielref12_Match.f] at h, fun _ _ _ _ r h => by simp [orielref12_Match.l0] at h, fun _ _ _ _ _ r h => by simp [orielref12_Match.j1] at h⟩
 | k + 1 => by
  obtain ⟨ih0, ih1, ih2⟩ := orielref12_Match.mono_l k
  refine ⟨?_, ?_, ?_⟩
  ·intro y0 y1
   unfold orielref12_Match.f
   repeat' first
   | (with_reducible exact ih1 _ _ _ _)
   | (with_reducible exact orielref11_Visible.mono _ _)
   | (with_reducible refine LeO.bind ?_ (fun _ => ?_))
  ·intro y0 y1 y2 y3
   unfold orielref12_Match.l0
   repeat' first
   | (with_reducible exact ih2 _ _ _ _ _)
   | (with_reducible exact orielref11_Find.mono _ _ _ _)
   | (with_reducible exact LeO.refl _)
   | (with_reducible refine LeO.ite ?_ ?_)
   | (with_reducible refine LeO.bind ?_ (fun _ => ?_))
  ·intro y0 y1 y2 y3 y4
   unfold orielref12_Match.j1
   repeat' first
   | (with_reducible exact ih0 _ _)
   | (with_reducible exact ih1 _ _ _ _)
   | (with_reducible exact LeO.refl _)
   | (with_reducible refine LeO.ite ?_ ?_)
   | (with_reducible refine LeO.bind ?_ (fun _ => ?_))
theorem orielref12_Match.mono : ∀ a0 a1 k, LeO (orielref12_Match.f k a0 a1) (orielref12_Match.f (k + 1) a0 a1) := by
 intro a0 a1 k
 obtain ⟨ih0, ih1, ih2⟩ := orielref12_Match.mono_l k
 exact ih0 a0 a1
def orielref12_Match.T6 : Bool × List (List Nat × List Nat) := (true, [([], []), ([], []), ([], []), ([1, 2], [1, 2]), ([3], [3]), ([4], [4]), ([], []), ([], []), ([6, 7], [6, 7]), ([8], [8]), ([9], [9]), ([0, 5, 10], [0, 5, 10]), ([11, 11, 0, 1, 2, 3, 4, 5, 6, 7, 8, 9, 10, 11], [11])])
def orielref12_Match.B6 : List Nat := [0, 0, 0, 6, 14, 30, 0, 0, 192, 448, 960, 2047, 4095]
theorem orielref12_Match.tab6 : rtab .any (opsOf Try.f9 6) = orielref12_Match.T6 := by kernel_rfl
theorem orielref12_Match.bits6 : waitsOk orielref12_Match.T6.2 orielref12_Match.B6 = true := by kernel_rfl
def orielref12_Match.T9 : Bool × List (List Nat × List Nat) := (true, [([], []), ([], []), ([0, 1], [0, 1]), ([2], [2]), ([3], [3]), ([], []), ([], []), ([5, 6], [5, 6]), ([7], [7]), ([8], [8]), ([4, 9], [4, 9])])
def orielref12_Match.B9 : List Nat := [0, 0, 3, 7, 15, 0, 0, 96, 224, 480, 1023]
theorem orielref12_Match.tab9 : rtab .any (opsOf Try.f9 9) = orielref12_Match.T9 := by kernel_rfl
theorem orielref12_Match.bits9 : waitsOk orielref12_Match.T9.2 orielref12_Match.B9 = true := by kernel_rfl
def orielref12_Match.T10 : Bool × List (List Nat × List Nat) := (true, [([], []), ([], []), ([], []), ([1, 2], [1, 2]), ([3], [3]), ([4], [4]), ([], []), ([], []), ([6, 7], [6, 7]), ([8], [8]), ([9], [9]), ([5, 10], [5, 10]), ([11], [11]), ([0, 12], [0, 12]), ([13, 13, 0, 1, 2, 3, 4, 5, 6, 7, 8, 9, 10, 11, 12, 13], [0, 13])])
def orielref12_Match.B10 : List Nat := [0, 0, 0, 6, 14, 30, 0, 0, 192, 448, 960, 2046, 4094, 8191, 16383]
theorem orielref12_Match.tab10 : rtab .any (opsOf Try.f9 10) = orielref12_Match.T10 := by kernel_rfl
theorem orielref12_Match.bits10 : waitsOk orielref12_Match.T10.2 orielref12_Match.B10 = true := by kernel_rfl
def orielref12_Match.T12 : Bool × List (List Nat × List Nat) := (true, [([], []), ([], []), ([0, 1], [0, 1]), ([2], [2]), ([3], [3]), ([], []), ([], []), ([5, 6], [5, 6]), ([7], [7]), ([8], [8]), ([4, 9], [4, 9]), ([10], [10]), ([11], [11]), ([11], [11]), ([11], [11]), ([], []), ([12, 10, 0, 1, 2, 3, 4, 5, 6, 7, 8, 9, 10, 11, 12, 15], [12]), ([15, 13, 16, 0, 1, 2, 3, 4, 5, 6, 7, 8, 9, 10, 11, 12, 13, 15, 16], [13, 15]), ([14, 17, 0, 1, 2, 3, 4, 5, 6, 7, 8, 9, 10, 11, 12, 13, 14, 15, 16, 17], [14])])
def orielref12_Match.B12 : List Nat := [0, 0, 3, 7, 15, 0, 0, 96, 224, 480, 1023, 2047, 4095, 4095, 4095, 0, 40959, 114687, 262143]
theorem orielref12_Match.tab12 : rtab .any (opsOf Try.f9 12) = orielref12_Match.T12 := by kernel_rfl
theorem orielref12_Match.bits12 : waitsOk orielref12_Match.T12.2 orielref12_Match.B12 = true := by kernel_rfl
set_option maxHeartbeats 8000000 in
set_option maxRecDepth 100000 in
theorem orielref12_Match.calls (k : Nat) : ∀ (P0_ : Nat → Prop) (A0 : Option Addr) (c0 : Nat) (l0 : List (S33)) (A1 : Option Addr) (c1 : Nat) (l1 : List (S33)) (r1 : List (S42)) (r2 : Int) (r3 : ByteArray) (r4 : Int) (r5 : Int) (r6 : List (S33)) (r7 : List (S33)) (r8 : Bool) (w : World) (hs0 : Kd.V k33 33 w w.heap.size (fun k_ => P0_ k_) (.slice A0 l0.length c0) l0) (hr1 : Kd.C k33 w A1 l1.length l1) (hc1 : l1.length ≤ c1) (h : orielref12_Match.f k l0 l1 = some (r1, r2, r3, r4, r5, r6, r7, r8)),
  Calls Try.prog 9 #[.slice A0 l0.length c0, .slice A1 l1.length c1] w fun e w' => ∃ v0_ v5_ v6_ : Value, e = .returned (.tuple #[v0_, .agg #[.int .i64 r2, .string r3, .int .i64 r4, .int .i64 r5, v5_, v6_], .bool r8]) ∧ Kd.R k42 42 w' w.heap.size (fun k_ => (w.heap.size ≤ k_)) v0_ r1 ∧ Kd.V k33 33 w' w.heap.size (fun k_ => (P0_ k_ ∨ w.heap.size ≤ k_) ∧ some k_ ≠ (v0_ : Value).ownBlock) v5_ r6 ∧ Kd.V k33 33 w' w.heap.size (fun k_ => (P0_ k_ ∨ w.heap.size ≤ k_) ∧ some k_ ≠ (v0_ : Value).ownBlock) v6_ r7 ∧ Below w.heap.size w w' := by
 induction k using Nat.strongRecOn with
 | _ k ih =>
 intro P0_ A0 c0 l0 A1 c1 l1 r1 r2 r3 r4 r5 r6 r7 r8 w hs0 hr1 hc1 h
 cases k with
 | zero => exact absurd h (by simp [orielref12_Match.f])
 | succ k =>
 simp only [orielref12_Match.f] at h
 have hu33 := Try.underlying33
 have hu42 := Try.underlying42
 have HO0 := am9 (show Kd.V k33 33 w w.heap.size (fun k_ => (P0_ k_ ∨ w.heap.size ≤ k_)) (.slice A0 l0.length c0) l0 from Kd.V_mono hs0 (fun k_ hk => .inl hk))
 have HR1 := am9 hr1
 have HC1 := am9 hc1
 clear hr1 hc1
 have HB := am9 (Below.refl w.heap.size w)
 have H : ((orielref11_Visible.f k l0).bind fun t139 => (orielref12_Match.l0 k l1 ([] : List (S42)) t139 0)) = some (r1, r2, r3, r4, r5, r6, r7, r8) := h
 clear h
 replace H := Option.bind_eq_some_iff.mp H
 obtain ⟨t139, A30, H⟩ := H
 replace H : (orielref12_Match.l0 k l1 ([] : List (S42)) t139 0) = some (r1, r2, r3, r4, r5, r6, r7, r8) := H
 have A3 := am9 A30
 clear A30
 have H' := am9 H
 clear H
 go_enter Try.func9, Try.ntmps9
 go_wp2_with (first | ((with_reducible refine gate_dst (N := 5) rfl ?_); refine box_event ?hg (N := 5) ?hd (cs := #[.int .i64 0, .string (⟨#[]⟩ : ByteArray), .int .i64 0, .int .i64 0, .slice none 0 0, .slice none 0 0]) (t := 33) ?hr ?_; (case hd => rfl); (case hg => rfl); (case hr => (go_simp; done)); intro g3 hg w4 hbox hb; have n0_ := am9 (Kd.V_below (Kd.V_elderB (by exact HO0.out) g3 (Nat.le_of_eq hg.symm)) hb); have n1_ := am9 (below_step (by repeat (with_reducible exact HB.out)) hb); have n2_ := am9 (hbox); have n3_ := am9 ((by rw [hg]; exact (below_size (by repeat (with_reducible exact HB.out))) : w.heap.size ≤ g3)); have n4_ := am9 ((by rw [hg]; exact (below_size (by repeat (with_reducible exact HB.out))) : w.heap.size ≤ g3)); clear HO0; clear HB; have HO0 := n0_; have HB := n1_; have BK138 := n2_; have GW138 := n3_; have GE138 := n4_; clear n0_ n1_ n2_ n3_ n4_; clear hb hbox hg) | ((with_reducible refine gate_callee (f := 20) rfl ?_); refine goesL_ (some 15) rfl rfl Try.func20 (by kernel_rfl) rfl #[.slice A0 l0.length c0] rfl (by (try simp only [List.map_toArray, List.map_cons, List.map_nil]); rfl) ?_; (with_reducible refine (orielref11_Visible.calls k (fun k_ => ((P0_ k_ ∨ w.heap.size ≤ k_) ∧ k_ ≠ g3)) _ _ l0 t139 _ ?side1 A3.out).mono ?_); (case side1 => exact HO0.out); rintro e w5 ⟨v140, rfl, ho0, hb⟩; refine ⟨_, rfl, ?_⟩; have n0_ := am9 (Kd.V_elder' (by exact HO0.out) (Kd.N_base ho0) hb); have n1_ := am9 (Kd.N_lower (Kd.N_mono (ok' := fun k_ => (P0_ k_ ∨ w.heap.size ≤ k_) ∧ k_ ≠ g3) ho0 (fun k_ hk_ => ⟨Or.elim hk_ (fun hs_ => hs_.1) (fun hn_ => (.inr (Nat.le_trans (below_size (by repeat (with_reducible exact HB.out))) hn_))), Or.elim hk_ (fun hs_ => hs_.2) (fun hn_ => (Kd.freshB (g := g3) (o := .cells #[.int .i64 0, .string (⟨#[]⟩ : ByteArray), .int .i64 0, .int .i64 0, .slice none 0 0, .slice none 0 0] 33 (0, 0)) (by exact BK138.out) k_ hn_))⟩)) (below_size (by repeat (with_reducible exact HB.out)))); have n2_ := am9 (blk_below (g := g3) (o := .cells #[.int .i64 0, .string (⟨#[]⟩ : ByteArray), .int .i64 0, .int .i64 0, .slice none 0 0, .slice none 0 0] 33 (0, 0)) (by exact BK138.out) hb); have n3_ := am9 (below_step (by repeat (with_reducible exact HB.out)) hb); clear HO0; clear BK138; clear HB; have HO0 := n0_; have HO141 := n1_; have BK138 := n2_; have HB := n3_; clear n0_ n1_ n2_ n3_; (try clear hb); (try clear hb2); (try clear hk); (try clear hi); (try clear ho0)))
 go_loopg [7, 9] k (fun kq v7 v9 w' => ∃ (x7_1 : List (S42)) (x9_1 : Int) (x139000_1 : Int) (x139001_1 : ByteArray) (x139002_1 : Int) (x139003_1 : Int), v9 = .int .i64 x9_1 ∧ Aside0 (orielref12_Match.l0 kq l1 x7_1 t139 x9_1 = some (r1, r2, r3, r4, r5, r6, r7, r8)) ∧ Aside0 (kq ≤ k) ∧ Aside0 (Kd.R k42 42 w' w.heap.size (fun k_ => (w.heap.size ≤ k_)) v7 x7_1) ∧ Aside0 (Kd.N k33 33 w' w.heap.size (fun k_ => (P0_ k_ ∨ w.heap.size ≤ k_) ∧ some k_ ≠ (v7 : Value).ownBlock ∧ k_ ≠ g3) v140 t139) ∧ Aside0 (w'.heap[g3]? = some (.cells #[.int .i64 x139000_1, .string x139001_1, .int .i64 x139002_1, .int .i64 x139003_1, (.slice none 0 0), (.slice none 0 0)] 33 (0, 0))) ∧ Aside0 (Below w.heap.size w w'))
 case atStart => exact ⟨(([] : List (S42))), (0), (0), ((⟨#[]⟩ : ByteArray)), (0), (0), (by rfl), H', ⟨Nat.le_refl _⟩, ⟨by exact Kd.R_nil _ _ _ _ _⟩, ⟨by exact Kd.N_mono HO141.out (fun _ hk => ⟨hk.1, ⟨(by simp [Value.ownBlock]), hk.2⟩⟩)⟩, ⟨by exact BK138.out⟩, ⟨by repeat (with_reducible exact HB.out)⟩⟩
 case round =>
  clear H'
  obtain ⟨x7_1, x9_1, x139000_1, x139001_1, x139002_1, x139003_1, rfl, HA, HK1, HO_7, HO_8, BK138, HB⟩ := hrel
  cases gk with
  | zero => exact absurd HA.out (by simp [orielref12_Match.l0])
  | succ k1 =>
   have H := HA.out
   clear HA
   simp only [orielref12_Match.l0] at H
   by_cases c6 : x9_1 < (t139.length : Int)
   ·rw [if_pos c6] at H
    have c6b0 : decide (x9_1 < (t139.length : Int)) = true := decide_eq_true c6
    clear c6
    by_cases c7 : 0 ≤ x9_1
    ·rw [if_pos c7] at H
     have c7b0 : decide (0 ≤ x9_1) = true := decide_eq_true c7
     clear c7
     replace H := Option.bind_eq_some_iff.mp H
     obtain ⟨t144, A80, H⟩ := H
     replace H : (if t144 < 0 then (some (([] : List (S42)), (rd_T33 t139 x9_1).f0, (rd_T33 t139 x9_1).f1, (rd_T33 t139 x9_1).f2, (rd_T33 t139 x9_1).f3, (rd_T33 t139 x9_1).f4, (rd_T33 t139 x9_1).f5, false)) else (if 0 ≤ t144 then (if t144 < (l1.length : Int) then (if ((rd_T33 t139 x9_1).f2) = ((rd_T33 l1 t144).f2) then (orielref12_Match.j1 k1 l1 x7_1 t139 x9_1 t144) else (if x7_1.length < 8796093022208 then (orielref12_Match.j1 k1 l1 (x7_1 ++ [(⟨(rd_T33 t139 x9_1).f2, (rd_T33 l1 t144).f2⟩ : S42)]) t139 x9_1 t144) else (none))) else (none)) else (none))) = some (r1, r2, r3, r4, r5, r6, r7, r8) := H
     have A8 := am9 A80
     clear A80
     by_cases c9 : t144 < 0
     ·rw [if_pos c9] at H
      have c9b0 : decide (t144 < 0) = true := decide_eq_true c9
      clear c9
      simp only [Option.some.injEq, Prod.mk.injEq] at H
      obtain ⟨rfl, rfl, rfl, rfl, rfl, rfl, rfl, rfl⟩ := H
      obtain ⟨Ao10, co10, eo10⟩ := Kd.N_slice HO_8.out
      subst eo10
      try go_wp2
      have n0_ := am9 (Kd.R_drew HO_7.out)
      have n1_ := am9 (Kd.N_drew HO_8.out)
      have n2_ := am9 (blk_drew BK138.out)
      have n3_ := am9 (below_drew1 HB.out)
      clear HO_7
      clear HO_8
      clear BK138
      clear HB
      have HO_7 := n0_
      have HO_8 := n1_
      have BK138 := n2_
      have HB := n3_
      clear n0_ n1_ n2_ n3_
      have p142 : 0 ≤ (x9_1 : Int) := of_decide_eq_true (by with_reducible assumption)
      have q142 : x9_1 < (t139.length : Int) := of_decide_eq_true (by with_reducible assumption)
      obtain ⟨ad142, A142_4, c142_4, A142_5, c142_5, e142, hx142_0, hx142_1, hx142_2, hx142_3, hx142_4, hx142_5, hl142_4, hi142_4, hl142_5, hi142_5⟩ := at_T33 (Kd.N_reads' HO_8.out).2.2 x9_1 p142 q142
      cases e142
      obtain ⟨ce142, hce142, hMe142, hcc142⟩ := Kd.N_get HO_8.out z33 x9_1 p142 (by exact q142)
      obtain ⟨ua142_4, uc142_4, ua142_5, uc142_5, rfl, ul142_4, ge142_4, ul142_5, ge142_5⟩ := k33_openF hMe142
      have hv142_4 := hcc142 4 _ rfl
      rw [add_field _ _ 4 (by omega)] at hv142_4
      replace hv142_4 := Option.some.inj (hv142_4.symm.trans hx142_4)
      injection hv142_4 with hva_ hvn_ hvc_
      rw [hva_] at ge142_4
      rw [hvc_] at ul142_4
      have HL142_4 := am9 (show Kd.V k33 33 _ w.heap.size _ _ ((rd_T33 t139 x9_1).f4) from Kd.V_mk ul142_4 ge142_4)
      clear hva_ hvn_ hvc_ ge142_4 ul142_4
      have hv142_5 := hcc142 5 _ rfl
      rw [add_field _ _ 5 (by omega)] at hv142_5
      replace hv142_5 := Option.some.inj (hv142_5.symm.trans hx142_5)
      injection hv142_5 with hva_ hvn_ hvc_
      rw [hva_] at ge142_5
      rw [hvc_] at ul142_5
      have HL142_5 := am9 (show Kd.V k33 33 _ w.heap.size _ _ ((rd_T33 t139 x9_1).f5) from Kd.V_mk ul142_5 ge142_5)
      clear hva_ hvn_ hvc_ ge142_5 ul142_5
      clear hcc142 hce142
      have HR142_4 := am9 hi142_4
      have HC142_4 := am9 hl142_4
      clear hi142_4 hl142_4
      have HR142_5 := am9 hi142_5
      have HC142_5 := am9 hl142_5
      clear hi142_5 hl142_5
      replace p142 := eq_true p142
      replace q142 := eq_true q142
      have p143 : 0 ≤ (x9_1 : Int) := of_decide_eq_true (by with_reducible assumption)
      have q143 : x9_1 < (t139.length : Int) := of_decide_eq_true (by with_reducible assumption)
      obtain ⟨ad143, A143_4, c143_4, A143_5, c143_5, e143, hx143_0, hx143_1, hx143_2, hx143_3, hx143_4, hx143_5, hl143_4, hi143_4, hl143_5, hi143_5⟩ := at_T33 (Kd.N_reads' HO_8.out).2.2 x9_1 p143 q143
      obtain rfl : ad142 = ad143 := (by injection e143)
      obtain ⟨ce143, hce143, hMe143, hcc143⟩ := Kd.N_get HO_8.out z33 x9_1 p143 (by exact q143)
      obtain ⟨ua143_4, uc143_4, ua143_5, uc143_5, rfl, ul143_4, ge143_4, ul143_5, ge143_5⟩ := k33_openF hMe143
      have hv143_4 := hcc143 4 _ rfl
      rw [add_field _ _ 4 (by omega)] at hv143_4
      replace hv143_4 := Option.some.inj (hv143_4.symm.trans hx143_4)
      injection hv143_4 with hva_ hvn_ hvc_
      rw [hva_] at ge143_4
      rw [hvc_] at ul143_4
      have HL143_4 := am9 (show Kd.V k33 33 _ w.heap.size _ _ ((rd_T33 t139 x9_1).f4) from Kd.V_mk ul143_4 ge143_4)
      clear hva_ hvn_ hvc_ ge143_4 ul143_4
      have hv143_5 := hcc143 5 _ rfl
      rw [add_field _ _ 5 (by omega)] at hv143_5
      replace hv143_5 := Option.some.inj (hv143_5.symm.trans hx143_5)
      injection hv143_5 with hva_ hvn_ hvc_
      rw [hva_] at ge143_5
      rw [hvc_] at ul143_5
      have HL143_5 := am9 (show Kd.V k33 33 _ w.heap.size _ _ ((rd_T33 t139 x9_1).f5) from Kd.V_mk ul143_5 ge143_5)
      clear hva_ hvn_ hvc_ ge143_5 ul143_5
      clear hcc143 hce143
      have HR143_4 := am9 hi143_4
      have HC143_4 := am9 hl143_4
      clear hi143_4 hl143_4
      have HR143_5 := am9 hi143_5
      have HC143_5 := am9 hl143_5
      clear hi143_5 hl143_5
      replace p143 := eq_true p143
      replace q143 := eq_true q143
      have ea_ := Option.some.inj (hx142_4.symm.trans hx143_4)
      injection ea_ with ea_ en_ ec_
      subst ea_
      subst ec_
      clear en_
      have ea_ := Option.some.inj (hx142_5.symm.trans hx143_5)
      injection ea_ with ea_ en_ ec_
      subst ea_
      subst ec_
      clear en_
      refine start_ (n := 13) (S := fun w' => w'.cell? (ad142.add ((x9_1).toNat * 6)) = some (.int .i64 ((rd_T33 t139 x9_1).f0)) ∧ w'.cell? ⟨(ad142.add ((x9_1).toNat * 6)).block, (ad142.add ((x9_1).toNat * 6)).off + 1, none⟩ = some (.string ((rd_T33 t139 x9_1).f1)) ∧ w'.cell? ⟨(ad142.add ((x9_1).toNat * 6)).block, (ad142.add ((x9_1).toNat * 6)).off + 2, none⟩ = some (.int .i64 ((rd_T33 t139 x9_1).f2)) ∧ w'.cell? ⟨(ad142.add ((x9_1).toNat * 6)).block, (ad142.add ((x9_1).toNat * 6)).off + 3, none⟩ = some (.int .i64 ((rd_T33 t139 x9_1).f3)) ∧ w'.cell? ⟨(ad142.add ((x9_1).toNat * 6)).block, (ad142.add ((x9_1).toNat * 6)).off + 4, none⟩ = some (.slice A142_4 ((rd_T33 t139 x9_1).f4).length c142_4) ∧ w'.cell? ⟨(ad142.add ((x9_1).toNat * 6)).block, (ad142.add ((x9_1).toNat * 6)).off + 5, none⟩ = some (.slice A142_5 ((rd_T33 t139 x9_1).f5).length c142_5) ∧ w'.cell? (ad142.add ((x9_1).toNat * 6)) = some (.int .i64 ((rd_T33 t139 x9_1).f0)) ∧ w'.cell? ⟨(ad142.add ((x9_1).toNat * 6)).block, (ad142.add ((x9_1).toNat * 6)).off + 1, none⟩ = some (.string ((rd_T33 t139 x9_1).f1)) ∧ w'.cell? ⟨(ad142.add ((x9_1).toNat * 6)).block, (ad142.add ((x9_1).toNat * 6)).off + 2, none⟩ = some (.int .i64 ((rd_T33 t139 x9_1).f2)) ∧ w'.cell? ⟨(ad142.add ((x9_1).toNat * 6)).block, (ad142.add ((x9_1).toNat * 6)).off + 3, none⟩ = some (.int .i64 ((rd_T33 t139 x9_1).f3)) ∧ w'.cell? ⟨(ad142.add ((x9_1).toNat * 6)).block, (ad142.add ((x9_1).toNat * 6)).off + 4, none⟩ = some (.slice A142_4 ((rd_T33 t139 x9_1).f4).length c142_4) ∧ w'.cell? ⟨(ad142.add ((x9_1).toNat * 6)).block, (ad142.add ((x9_1).toNat * 6)).off + 5, none⟩ = some (.slice A142_5 ((rd_T33 t139 x9_1).f5).length c142_5)) (ds := []) #[false, false, false, false, false, false, false, false, false, false, false, false, false] (by kernel_rfl) rfl rfl ⟨hx142_0, hx142_1, hx142_2, hx142_3, hx142_4, hx142_5, hx143_0, hx143_1, hx143_2, hx143_3, hx143_4, hx143_5⟩ (fun hh => ?_); refine with_tabW orielref12_Match.tab6 orielref12_Match.bits6 (fun HT_ HW_ => ?_)
      generalize wr.drew = w11 at HO_7 HO_8 BK138 HB HL142_4 HL142_5 HL143_4 HL143_5 HR142_4 HR142_5 HR143_4 HR143_5 hx142_0 hx142_1 hx142_2 hx142_3 hx142_4 hx142_5 hx143_0 hx143_1 hx143_2 hx143_3 hx143_4 hx143_5 hh ⊢
      refine pure_ (i := 0) (N := some 22) (v := ?_) (a' := ?_) #[true, false, false, false, false, false, false, false, false, false, false, false, false] rfl rfl (any_of HT_.out (by kernel_rfl)) (fun _ _ _ h => h) (Or.inl ⟨by rfl, ?_⟩) ?_ ?_
      rotate_left
      ·intro w'
       go_simp
       with_reducible rfl
      rotate_left
      ·simp only [Act.put, List.setIfInBounds_toArray, List.set_cons_zero, List.set_cons_succ, i64_w, i32_w]
       rfl
      refine pure_ (i := 1) (N := some 23) (v := ?_) (a' := ?_) #[true, true, false, false, false, false, false, false, false, false, false, false, false] rfl rfl (any_of HT_.out (by kernel_rfl)) (fun _ _ _ h => h) (Or.inl ⟨by rfl, ?_⟩) ?_ ?_
      rotate_left
      ·intro w'
       go_simp
       with_reducible rfl
      rotate_left
      ·simp only [Act.put, List.setIfInBounds_toArray, List.set_cons_zero, List.set_cons_succ, i64_w, i32_w]
       rfl
      refine pure_ (i := 2) (N := some 24) (v := ?_) (a' := ?_) #[true, true, true, false, false, false, false, false, false, false, false, false, false] rfl rfl (any_of HT_.out (by kernel_rfl)) (fun _ _ _ h => h) (Or.inl ⟨by rfl, ?_⟩) ?_ ?_
      rotate_left
      ·intro w'
       go_simp
       with_reducible rfl
      rotate_left
      ·simp only [Act.put, List.setIfInBounds_toArray, List.set_cons_zero, List.set_cons_succ, i64_w, i32_w]
       rfl
      refine pure_ (i := 3) (N := some 25) (v := ?_) (a' := ?_) #[true, true, true, true, false, false, false, false, false, false, false, false, false] rfl rfl (any_of HT_.out (by kernel_rfl)) (fun _ _ _ h => h) (Or.inl ⟨by rfl, ?_⟩) ?_ ?_
      rotate_left
      ·intro w'
       go_simp
       with_reducible rfl
      rotate_left
      ·simp only [Act.put, List.setIfInBounds_toArray, List.set_cons_zero, List.set_cons_succ, i64_w, i32_w]
       rfl
      refine pure_ (i := 4) (N := some 26) (v := ?_) (a' := ?_) #[true, true, true, true, true, false, false, false, false, false, false, false, false] rfl rfl (any_of HT_.out (by kernel_rfl)) (fun _ _ _ h => h) (Or.inl ⟨by rfl, ?_⟩) ?_ ?_
      rotate_left
      ·intro w'
       go_simp
       with_reducible rfl
      rotate_left
      ·simp only [Act.put, List.setIfInBounds_toArray, List.set_cons_zero, List.set_cons_succ, i64_w, i32_w]
       rfl
      refine pure_ (i := 6) (N := some 28) (v := ?_) (a' := ?_) #[true, true, true, true, true, false, true, false, false, false, false, false, false] rfl rfl (any_of HT_.out (by kernel_rfl)) (fun _ _ _ h => h) (Or.inl ⟨by rfl, ?_⟩) ?_ ?_
      rotate_left
      ·intro w'
       go_simp
       with_reducible rfl
      rotate_left
      ·simp only [Act.put, List.setIfInBounds_toArray, List.set_cons_zero, List.set_cons_succ, i64_w, i32_w]
       rfl
      refine pure_ (i := 7) (N := some 29) (v := ?_) (a' := ?_) #[true, true, true, true, true, false, true, true, false, false, false, false, false] rfl rfl (any_of HT_.out (by kernel_rfl)) (fun _ _ _ h => h) (Or.inl ⟨by rfl, ?_⟩) ?_ ?_
      rotate_left
      ·intro w'
       go_simp
       with_reducible rfl
      rotate_left
      ·simp only [Act.put, List.setIfInBounds_toArray, List.set_cons_zero, List.set_cons_succ, i64_w, i32_w]
       rfl
      refine pure_ (i := 8) (N := some 30) (v := ?_) (a' := ?_) #[true, true, true, true, true, false, true, true, true, false, false, false, false] rfl rfl (any_of HT_.out (by kernel_rfl)) (fun _ _ _ h => h) (Or.inl ⟨by rfl, ?_⟩) ?_ ?_
      rotate_left
      ·intro w'
       go_simp
       with_reducible rfl
      rotate_left
      ·simp only [Act.put, List.setIfInBounds_toArray, List.set_cons_zero, List.set_cons_succ, i64_w, i32_w]
       rfl
      refine pure_ (i := 9) (N := some 31) (v := ?_) (a' := ?_) #[true, true, true, true, true, false, true, true, true, true, false, false, false] rfl rfl (any_of HT_.out (by kernel_rfl)) (fun _ _ _ h => h) (Or.inl ⟨by rfl, ?_⟩) ?_ ?_
      rotate_left
      ·intro w'
       go_simp
       with_reducible rfl
      rotate_left
      ·simp only [Act.put, List.setIfInBounds_toArray, List.set_cons_zero, List.set_cons_succ, i64_w, i32_w]
       rfl
      refine take_ (i := 5) (N := some 27) (v := ?_) (a' := ?_) #[true, true, true, true, true, true, true, true, true, true, false, false, false] rfl rfl (take_ofW HT_.out HW_.out (by kernel_rfl)) (fun _ _ _ h => h) (Or.inl ⟨by rfl, ?_⟩) hh ?_ ?_
      rotate_left
      ·rintro w' ⟨s0, s1, s2, s3, s4, s5, s6, s7, s8, s9, s10, s11⟩
       go_simp
       with_reducible rfl
      rotate_left
      ·simp only [Act.put, List.setIfInBounds_toArray, List.set_cons_zero, List.set_cons_succ, i64_w, i32_w]
       rfl
      refine take_ (i := 10) (N := some 32) (v := ?_) (a' := ?_) #[true, true, true, true, true, true, true, true, true, true, true, false, false] rfl rfl (take_ofW HT_.out HW_.out (by kernel_rfl)) (fun _ _ _ h => h) (Or.inl ⟨by rfl, ?_⟩) hh ?_ ?_
      rotate_left
      ·rintro w' ⟨s0, s1, s2, s3, s4, s5, s6, s7, s8, s9, s10, s11⟩
       go_simp
       with_reducible rfl
      rotate_left
      ·simp only [Act.put, List.setIfInBounds_toArray, List.set_cons_zero, List.set_cons_succ, i64_w, i32_w]
       rfl
      refine one_ (i := 11) (N := some 33) #[true, true, true, true, true, true, true, true, true, true, true, true, false] rfl rfl (one_of HT_.out (by kernel_rfl)) (by decide) (fun K hK => ?_)
      refine goes_ Try.func21 (by kernel_rfl) rfl #[.slice A1 l1.length c1, .int .i64 ((rd_T33 t139 x9_1).f0), .string ((rd_T33 t139 x9_1).f1)] (by rfl) rfl rfl (by (try simp only [List.map_toArray, List.map_cons, List.map_nil]); rfl) ?_
      with_reducible refine (orielref11_Find.calls k1 _ _ l1 ((rd_T33 t139 x9_1).f0) ((rd_T33 t139 x9_1).f1) t144 _ ?side1 ?side2 A8.out).mono ?_
      (case side1 => repeat (exact (Kd.C_below HR1.out HB.out)))
      (case side2 => exact HC1.out)
      rintro e w' ⟨rfl, ⟨nd, rfl⟩⟩
      refine ⟨_, rfl, ?_⟩
      refine hK.out _ _ ⟨hh.1, hh.2.1, hh.2.2.1, hh.2.2.2.1, hh.2.2.2.2.1, hh.2.2.2.2.2.1, hh.2.2.2.2.2.2.1, hh.2.2.2.2.2.2.2.1, hh.2.2.2.2.2.2.2.2.1, hh.2.2.2.2.2.2.2.2.2.1, hh.2.2.2.2.2.2.2.2.2.2.1, hh.2.2.2.2.2.2.2.2.2.2.2⟩ (fun hh => ?_)
      clear hK K
      refine norm_ (a' := ?_) ?_ ?_
      rotate_left
      ·show Act.put _ (some 33) _ = _
       simp only [Act.put, List.setIfInBounds_toArray, List.set_cons_zero, List.set_cons_succ, i64_w, i32_w]
       rfl
      refine pure_ (i := 12) (N := some 10) (v := ?_) (a' := ?_) #[true, true, true, true, true, true, true, true, true, true, true, true, true] rfl rfl (any_of HT_.out (by kernel_rfl)) (fun _ _ _ h => h) (Or.inl ⟨by rfl, ?_⟩) ?_ ?_
      rotate_left
      ·intro w'
       go_simp
       with_reducible rfl
      rotate_left
      ·simp only [Act.put, List.setIfInBounds_toArray, List.set_cons_zero, List.set_cons_succ, i64_w, i32_w]
       rfl
      refine done_ (done_of HT_.out (by kernel_rfl)) ?_
      try go_wp2
      (try (rw [drewN_self w11]; generalize hq_ : World.drewN w11 _ = w11; have n0_ : Aside0 (Kd.V k33 33 w11 w.heap.size (fun k_ => (P0_ k_ ∨ w.heap.size ≤ k_) ∧ some k_ ≠ (u7 : Value).ownBlock ∧ some k_ ≠ (.slice (some ad142) t139.length co10 : Value).ownBlock ∧ k_ ≠ g3) (.slice A142_4 ((rd_T33 t139 x9_1).f4).length c142_4) ((rd_T33 t139 x9_1).f4)) := ⟨by rw [← hq_]; exact (by (with_reducible repeat (apply Kd.V_drewN)); exact Kd.V_mono HL142_4.out (fun _ hk => ⟨hk.1.1, ⟨hk.1.2.1, ⟨hk.2, hk.1.2.2⟩⟩⟩))⟩; have n1_ : Aside0 (Kd.V k33 33 w11 w.heap.size (fun k_ => (P0_ k_ ∨ w.heap.size ≤ k_) ∧ some k_ ≠ (u7 : Value).ownBlock ∧ some k_ ≠ (.slice (some ad142) t139.length co10 : Value).ownBlock ∧ k_ ≠ g3) (.slice A142_5 ((rd_T33 t139 x9_1).f5).length c142_5) ((rd_T33 t139 x9_1).f5)) := ⟨by rw [← hq_]; exact (by (with_reducible repeat (apply Kd.V_drewN)); exact Kd.V_mono HL142_5.out (fun _ hk => ⟨hk.1.1, ⟨hk.1.2.1, ⟨hk.2, hk.1.2.2⟩⟩⟩))⟩; have n2_ : Aside0 (Kd.V k33 33 w11 w.heap.size (fun k_ => (P0_ k_ ∨ w.heap.size ≤ k_) ∧ some k_ ≠ (u7 : Value).ownBlock ∧ some k_ ≠ (.slice (some ad142) t139.length co10 : Value).ownBlock ∧ k_ ≠ g3) (.slice A142_4 ((rd_T33 t139 x9_1).f4).length c142_4) ((rd_T33 t139 x9_1).f4)) := ⟨by rw [← hq_]; exact (by (with_reducible repeat (apply Kd.V_drewN)); exact Kd.V_mono HL143_4.out (fun _ hk => ⟨hk.1.1, ⟨hk.1.2.1, ⟨hk.2, hk.1.2.2⟩⟩⟩))⟩; have n3_ : Aside0 (Kd.V k33 33 w11 w.heap.size (fun k_ => (P0_ k_ ∨ w.heap.size ≤ k_) ∧ some k_ ≠ (u7 : Value).ownBlock ∧ some k_ ≠ (.slice (some ad142) t139.length co10 : Value).ownBlock ∧ k_ ≠ g3) (.slice A142_5 ((rd_T33 t139 x9_1).f5).length c142_5) ((rd_T33 t139 x9_1).f5)) := ⟨by rw [← hq_]; exact (by (with_reducible repeat (apply Kd.V_drewN)); exact Kd.V_mono HL143_5.out (fun _ hk => ⟨hk.1.1, ⟨hk.1.2.1, ⟨hk.2, hk.1.2.2⟩⟩⟩))⟩; have n4_ : Aside0 (Kd.R k42 42 w11 w.heap.size (fun k_ => (w.heap.size ≤ k_)) u7 x7_1) := ⟨by rw [← hq_]; exact (by (with_reducible repeat (apply Kd.R_drewN)); exact HO_7.out)⟩; have n5_ : Aside0 (Kd.N k33 33 w11 w.heap.size (fun k_ => (P0_ k_ ∨ w.heap.size ≤ k_) ∧ some k_ ≠ (u7 : Value).ownBlock ∧ k_ ≠ g3) (.slice (some ad142) t139.length co10) t139) := ⟨by rw [← hq_]; exact (by (with_reducible repeat (apply Kd.N_drewN)); exact HO_8.out)⟩; have n6_ : Aside0 (w11.heap[g3]? = some (.cells #[.int .i64 x139000_1, .string x139001_1, .int .i64 x139002_1, .int .i64 x139003_1, .slice none 0 0, .slice none 0 0] 33 (0, 0))) := ⟨by rw [← hq_]; exact (by (with_reducible repeat (refine blk_drewN ?_ _)); exact BK138.out)⟩; have n7_ : Aside0 (Below w.heap.size w w11) := ⟨by rw [← hq_]; exact (by repeat ((with_reducible first | exact HB.out | apply pw_below_drewN )))⟩; have n8_ : Aside0 (Kd.C k33 w11 A142_4 ((rd_T33 t139 x9_1).f4).length ((rd_T33 t139 x9_1).f4)) := ⟨by rw [← hq_]; exact (by repeat (first | (with_reducible exact HR142_4.out) | (with_reducible refine Kd.C_drewN ?_ _) ))⟩; have n9_ : Aside0 (Kd.C k33 w11 A142_5 ((rd_T33 t139 x9_1).f5).length ((rd_T33 t139 x9_1).f5)) := ⟨by rw [← hq_]; exact (by repeat (first | (with_reducible exact HR142_5.out) | (with_reducible refine Kd.C_drewN ?_ _) ))⟩; have n10_ : Aside0 (Kd.C k33 w11 A142_4 ((rd_T33 t139 x9_1).f4).length ((rd_T33 t139 x9_1).f4)) := ⟨by rw [← hq_]; exact (by repeat (first | (with_reducible exact HR143_4.out) | (with_reducible refine Kd.C_drewN ?_ _) ))⟩; have n11_ : Aside0 (Kd.C k33 w11 A142_5 ((rd_T33 t139 x9_1).f5).length ((rd_T33 t139 x9_1).f5)) := ⟨by rw [← hq_]; exact (by repeat (first | (with_reducible exact HR143_5.out) | (with_reducible refine Kd.C_drewN ?_ _) ))⟩; clear HL142_4 HL142_5 HL143_4 HL143_5 HO_7 HO_8 BK138 HB HR142_4 HR142_5 HR143_4 HR143_5 hq_; have HL142_4 := n0_; have HL142_5 := n1_; have HL143_4 := n2_; have HL143_5 := n3_; have HO_7 := n4_; have HO_8 := n5_; have BK138 := n6_; have HB := n7_; have HR142_4 := n8_; have HR142_5 := n9_; have HR143_4 := n10_; have HR143_5 := n11_; clear n0_ n1_ n2_ n3_ n4_ n5_ n6_ n7_ n8_ n9_ n10_ n11_))
      have n0_ := am9 (Kd.R_drew HO_7.out)
      have n1_ := am9 (Kd.N_drew HO_8.out)
      have n2_ := am9 (Kd.V_drew HL142_4.out)
      have n3_ := am9 (Kd.V_drew HL142_5.out)
      have n4_ := am9 (Kd.V_drew HL143_4.out)
      have n5_ := am9 (Kd.V_drew HL143_5.out)
      have n6_ := am9 (blk_drew BK138.out)
      have n7_ := am9 (Kd.C_drew HR142_4.out)
      have n8_ := am9 (Kd.C_drew HR142_5.out)
      have n9_ := am9 (Kd.C_drew HR143_4.out)
      have n10_ := am9 (Kd.C_drew HR143_5.out)
      have n11_ := am9 (below_drew1 HB.out)
      clear HO_7
      clear HO_8
      clear HL142_4
      clear HL142_5
      clear HL143_4
      clear HL143_5
      clear BK138
      clear HR142_4
      clear HR142_5
      clear HR143_4
      clear HR143_5
      clear HB
      have HO_7 := n0_
      have HO_8 := n1_
      have HL142_4 := n2_
      have HL142_5 := n3_
      have HL143_4 := n4_
      have HL143_5 := n5_
      have BK138 := n6_
      have HR142_4 := n7_
      have HR142_5 := n8_
      have HR143_4 := n9_
      have HR143_5 := n10_
      have HB := n11_
      clear n0_ n1_ n2_ n3_ n4_ n5_ n6_ n7_ n8_ n9_ n10_ n11_
      have p145 : 0 ≤ (x9_1 : Int) := of_decide_eq_true (by with_reducible assumption)
      have q145 : x9_1 < (t139.length : Int) := of_decide_eq_true (by with_reducible assumption)
      obtain ⟨ad145, A145_4, c145_4, A145_5, c145_5, e145, hx145_0, hx145_1, hx145_2, hx145_3, hx145_4, hx145_5, hl145_4, hi145_4, hl145_5, hi145_5⟩ := at_T33 (Kd.N_reads' HO_8.out).2.2 x9_1 p145 q145
      obtain rfl : ad142 = ad145 := (by injection e145)
      obtain ⟨ce145, hce145, hMe145, hcc145⟩ := Kd.N_get HO_8.out z33 x9_1 p145 (by exact q145)
      obtain ⟨ua145_4, uc145_4, ua145_5, uc145_5, rfl, ul145_4, ge145_4, ul145_5, ge145_5⟩ := k33_openF hMe145
      have hv145_4 := hcc145 4 _ rfl
      rw [add_field _ _ 4 (by omega)] at hv145_4
      replace hv145_4 := Option.some.inj (hv145_4.symm.trans hx145_4)
      injection hv145_4 with hva_ hvn_ hvc_
      rw [hva_] at ge145_4
      rw [hvc_] at ul145_4
      have HL145_4 := am9 (show Kd.V k33 33 _ w.heap.size _ _ ((rd_T33 t139 x9_1).f4) from Kd.V_mk ul145_4 ge145_4)
      clear hva_ hvn_ hvc_ ge145_4 ul145_4
      have hv145_5 := hcc145 5 _ rfl
      rw [add_field _ _ 5 (by omega)] at hv145_5
      replace hv145_5 := Option.some.inj (hv145_5.symm.trans hx145_5)
      injection hv145_5 with hva_ hvn_ hvc_
      rw [hva_] at ge145_5
      rw [hvc_] at ul145_5
      have HL145_5 := am9 (show Kd.V k33 33 _ w.heap.size _ _ ((rd_T33 t139 x9_1).f5) from Kd.V_mk ul145_5 ge145_5)
      clear hva_ hvn_ hvc_ ge145_5 ul145_5
      clear hcc145 hce145
      have HR145_4 := am9 hi145_4
      have HC145_4 := am9 hl145_4
      clear hi145_4 hl145_4
      have HR145_5 := am9 hi145_5
      have HC145_5 := am9 hl145_5
      clear hi145_5 hl145_5
      replace p145 := eq_true p145
      replace q145 := eq_true q145
      refine start_ (n := 7) (S := fun w' => w'.cell? (ad142.add ((x9_1).toNat * 6)) = some (.int .i64 ((rd_T33 t139 x9_1).f0)) ∧ w'.cell? ⟨(ad142.add ((x9_1).toNat * 6)).block, (ad142.add ((x9_1).toNat * 6)).off + 1, none⟩ = some (.string ((rd_T33 t139 x9_1).f1)) ∧ w'.cell? ⟨(ad142.add ((x9_1).toNat * 6)).block, (ad142.add ((x9_1).toNat * 6)).off + 2, none⟩ = some (.int .i64 ((rd_T33 t139 x9_1).f2)) ∧ w'.cell? ⟨(ad142.add ((x9_1).toNat * 6)).block, (ad142.add ((x9_1).toNat * 6)).off + 3, none⟩ = some (.int .i64 ((rd_T33 t139 x9_1).f3)) ∧ w'.cell? ⟨(ad142.add ((x9_1).toNat * 6)).block, (ad142.add ((x9_1).toNat * 6)).off + 4, none⟩ = some (.slice A145_4 ((rd_T33 t139 x9_1).f4).length c145_4) ∧ w'.cell? ⟨(ad142.add ((x9_1).toNat * 6)).block, (ad142.add ((x9_1).toNat * 6)).off + 5, none⟩ = some (.slice A145_5 ((rd_T33 t139 x9_1).f5).length c145_5)) (ds := []) #[false, false, false, false, false, false, false] (by kernel_rfl) rfl rfl ⟨hx145_0, hx145_1, hx145_2, hx145_3, hx145_4, hx145_5⟩ (fun hh => ?_)
      generalize w11.drew = w12 at HO_7 HO_8 HL142_4 HL142_5 HL143_4 HL143_5 BK138 HR142_4 HR142_5 HR143_4 HR143_5 HB HL145_4 HL145_5 HR145_4 HR145_5 hx145_0 hx145_1 hx145_2 hx145_3 hx145_4 hx145_5 hh ⊢
      refine pure_ (i := 0) (N := some 36) (v := ?_) (a' := ?_) #[true, false, false, false, false, false, false] rfl rfl (by kernel_rfl) (fun _ _ _ h => h) (Or.inl ⟨by rfl, ?_⟩) ?_ ?_
      rotate_left
      ·intro w'
       go_simp
       with_reducible rfl
      rotate_left
      ·simp only [Act.put, List.setIfInBounds_toArray, List.set_cons_zero, List.set_cons_succ, i64_w, i32_w]
       rfl
      refine pure_ (i := 1) (N := some 37) (v := ?_) (a' := ?_) #[true, true, false, false, false, false, false] rfl rfl (by kernel_rfl) (fun _ _ _ h => h) (Or.inl ⟨by rfl, ?_⟩) ?_ ?_
      rotate_left
      ·intro w'
       go_simp
       with_reducible rfl
      rotate_left
      ·simp only [Act.put, List.setIfInBounds_toArray, List.set_cons_zero, List.set_cons_succ, i64_w, i32_w]
       rfl
      refine pure_ (i := 2) (N := some 38) (v := ?_) (a' := ?_) #[true, true, true, false, false, false, false] rfl rfl (by kernel_rfl) (fun _ _ _ h => h) (Or.inl ⟨by rfl, ?_⟩) ?_ ?_
      rotate_left
      ·intro w'
       go_simp
       with_reducible rfl
      rotate_left
      ·simp only [Act.put, List.setIfInBounds_toArray, List.set_cons_zero, List.set_cons_succ, i64_w, i32_w]
       rfl
      refine pure_ (i := 4) (N := some 4) (v := ?_) (a' := ?_) #[true, true, true, false, true, false, false] rfl rfl (by kernel_rfl) (fun _ _ _ h => h) (Or.inl ⟨by rfl, ?_⟩) ?_ ?_
      rotate_left
      ·intro w'
       go_simp
       with_reducible rfl
      rotate_left
      ·simp only [Act.put, List.setIfInBounds_toArray, List.set_cons_zero, List.set_cons_succ, i64_w, i32_w]
       rfl
      refine take_ (i := 3) (N := some 39) (v := ?_) (a' := ?_) #[true, true, true, true, true, false, false] rfl rfl (by kernel_rfl) (fun _ _ _ h => h) (Or.inl ⟨by rfl, ?_⟩) hh ?_ ?_
      rotate_left
      ·rintro w' ⟨s0, s1, s2, s3, s4, s5⟩
       go_simp
       with_reducible rfl
      rotate_left
      ·simp only [Act.put, List.setIfInBounds_toArray, List.set_cons_zero, List.set_cons_succ, i64_w, i32_w]
       rfl
      refine one_ (i := 5) (N := none) #[true, true, true, true, true, true, false] rfl rfl (by kernel_rfl) (by decide) (fun K hK => ?_)
      have hs13 : w12.cell? ⟨g3, 0, none⟩ = some (.int .i64 x139000_1) := (blk_cell BK138.out 0).trans rfl
      have hfs13 := blk_frozen BK138.out 0
      have hs14 : w12.cell? ⟨g3, 1, none⟩ = some (.string x139001_1) := (blk_cell BK138.out 1).trans rfl
      have hfs14 := blk_frozen BK138.out 1
      have hs15 : w12.cell? ⟨g3, 2, none⟩ = some (.int .i64 x139002_1) := (blk_cell BK138.out 2).trans rfl
      have hfs15 := blk_frozen BK138.out 2
      have hs16 : w12.cell? ⟨g3, 3, none⟩ = some (.int .i64 x139003_1) := (blk_cell BK138.out 3).trans rfl
      have hfs16 := blk_frozen BK138.out 3
      have hs17 : w12.cell? ⟨g3, 4, none⟩ = some (.slice none 0 0) := (blk_cell BK138.out 4).trans rfl
      have hfs17 := blk_frozen BK138.out 4
      have hs18 : w12.cell? ⟨g3, 5, none⟩ = some (.slice none 0 0) := (blk_cell BK138.out 5).trans rfl
      have hfs18 := blk_frozen BK138.out 5
      refine skip_ (w1 := ?_) (by rfl) rfl ?_ ?_
      rotate_left
      ·go_simp
       rfl
      refine hK.out _ _ ⟨((cell_far (p := ⟨g3, _, none⟩) (by (rw [add_block]; exact Kd.own_blk (Kd.N_away HO_8.out (fun _ hk => hk.2.2)))) _).trans (((cell_far (p := ⟨g3, _, none⟩) (by (rw [add_block]; exact Kd.own_blk (Kd.N_away HO_8.out (fun _ hk => hk.2.2)))) _).trans (((cell_far (p := ⟨g3, _, none⟩) (by (rw [add_block]; exact Kd.own_blk (Kd.N_away HO_8.out (fun _ hk => hk.2.2)))) _).trans (((cell_far (p := ⟨g3, _, none⟩) (by (rw [add_block]; exact Kd.own_blk (Kd.N_away HO_8.out (fun _ hk => hk.2.2)))) _).trans (((cell_far (p := ⟨g3, _, none⟩) (by (rw [add_block]; exact Kd.own_blk (Kd.N_away HO_8.out (fun _ hk => hk.2.2)))) _).trans (((cell_far (p := ⟨g3, _, none⟩) (by (rw [add_block]; exact Kd.own_blk (Kd.N_away HO_8.out (fun _ hk => hk.2.2)))) _).trans (hh.1)))))))))))), ((cell_far (p := ⟨g3, _, none⟩) (by (rw [add_block]; exact Kd.own_blk (Kd.N_away HO_8.out (fun _ hk => hk.2.2)))) _).trans (((cell_far (p := ⟨g3, _, none⟩) (by (rw [add_block]; exact Kd.own_blk (Kd.N_away HO_8.out (fun _ hk => hk.2.2)))) _).trans (((cell_far (p := ⟨g3, _, none⟩) (by (rw [add_block]; exact Kd.own_blk (Kd.N_away HO_8.out (fun _ hk => hk.2.2)))) _).trans (((cell_far (p := ⟨g3, _, none⟩) (by (rw [add_block]; exact Kd.own_blk (Kd.N_away HO_8.out (fun _ hk => hk.2.2)))) _).trans (((cell_far (p := ⟨g3, _, none⟩) (by (rw [add_block]; exact Kd.own_blk (Kd.N_away HO_8.out (fun _ hk => hk.2.2)))) _).trans (((cell_far (p := ⟨g3, _, none⟩) (by (rw [add_block]; exact Kd.own_blk (Kd.N_away HO_8.out (fun _ hk => hk.2.2)))) _).trans (hh.2.1)))))))))))), ((cell_far (p := ⟨g3, _, none⟩) (by (rw [add_block]; exact Kd.own_blk (Kd.N_away HO_8.out (fun _ hk => hk.2.2)))) _).trans (((cell_far (p := ⟨g3, _, none⟩) (by (rw [add_block]; exact Kd.own_blk (Kd.N_away HO_8.out (fun _ hk => hk.2.2)))) _).trans (((cell_far (p := ⟨g3, _, none⟩) (by (rw [add_block]; exact Kd.own_blk (Kd.N_away HO_8.out (fun _ hk => hk.2.2)))) _).trans (((cell_far (p := ⟨g3, _, none⟩) (by (rw [add_block]; exact Kd.own_blk (Kd.N_away HO_8.out (fun _ hk => hk.2.2)))) _).trans (((cell_far (p := ⟨g3, _, none⟩) (by (rw [add_block]; exact Kd.own_blk (Kd.N_away HO_8.out (fun _ hk => hk.2.2)))) _).trans (((cell_far (p := ⟨g3, _, none⟩) (by (rw [add_block]; exact Kd.own_blk (Kd.N_away HO_8.out (fun _ hk => hk.2.2)))) _).trans (hh.2.2.1)))))))))))), ((cell_far (p := ⟨g3, _, none⟩) (by (rw [add_block]; exact Kd.own_blk (Kd.N_away HO_8.out (fun _ hk => hk.2.2)))) _).trans (((cell_far (p := ⟨g3, _, none⟩) (by (rw [add_block]; exact Kd.own_blk (Kd.N_away HO_8.out (fun _ hk => hk.2.2)))) _).trans (((cell_far (p := ⟨g3, _, none⟩) (by (rw [add_block]; exact Kd.own_blk (Kd.N_away HO_8.out (fun _ hk => hk.2.2)))) _).trans (((cell_far (p := ⟨g3, _, none⟩) (by (rw [add_block]; exact Kd.own_blk (Kd.N_away HO_8.out (fun _ hk => hk.2.2)))) _).trans (((cell_far (p := ⟨g3, _, none⟩) (by (rw [add_block]; exact Kd.own_blk (Kd.N_away HO_8.out (fun _ hk => hk.2.2)))) _).trans (((cell_far (p := ⟨g3, _, none⟩) (by (rw [add_block]; exact Kd.own_blk (Kd.N_away HO_8.out (fun _ hk => hk.2.2)))) _).trans (hh.2.2.2.1)))))))))))), ((cell_far (p := ⟨g3, _, none⟩) (by (rw [add_block]; exact Kd.own_blk (Kd.N_away HO_8.out (fun _ hk => hk.2.2)))) _).trans (((cell_far (p := ⟨g3, _, none⟩) (by (rw [add_block]; exact Kd.own_blk (Kd.N_away HO_8.out (fun _ hk => hk.2.2)))) _).trans (((cell_far (p := ⟨g3, _, none⟩) (by (rw [add_block]; exact Kd.own_blk (Kd.N_away HO_8.out (fun _ hk => hk.2.2)))) _).trans (((cell_far (p := ⟨g3, _, none⟩) (by (rw [add_block]; exact Kd.own_blk (Kd.N_away HO_8.out (fun _ hk => hk.2.2)))) _).trans (((cell_far (p := ⟨g3, _, none⟩) (by (rw [add_block]; exact Kd.own_blk (Kd.N_away HO_8.out (fun _ hk => hk.2.2)))) _).trans (((cell_far (p := ⟨g3, _, none⟩) (by (rw [add_block]; exact Kd.own_blk (Kd.N_away HO_8.out (fun _ hk => hk.2.2)))) _).trans (hh.2.2.2.2.1)))))))))))), ((cell_far (p := ⟨g3, _, none⟩) (by (rw [add_block]; exact Kd.own_blk (Kd.N_away HO_8.out (fun _ hk => hk.2.2)))) _).trans (((cell_far (p := ⟨g3, _, none⟩) (by (rw [add_block]; exact Kd.own_blk (Kd.N_away HO_8.out (fun _ hk => hk.2.2)))) _).trans (((cell_far (p := ⟨g3, _, none⟩) (by (rw [add_block]; exact Kd.own_blk (Kd.N_away HO_8.out (fun _ hk => hk.2.2)))) _).trans (((cell_far (p := ⟨g3, _, none⟩) (by (rw [add_block]; exact Kd.own_blk (Kd.N_away HO_8.out (fun _ hk => hk.2.2)))) _).trans (((cell_far (p := ⟨g3, _, none⟩) (by (rw [add_block]; exact Kd.own_blk (Kd.N_away HO_8.out (fun _ hk => hk.2.2)))) _).trans (((cell_far (p := ⟨g3, _, none⟩) (by (rw [add_block]; exact Kd.own_blk (Kd.N_away HO_8.out (fun _ hk => hk.2.2)))) _).trans (hh.2.2.2.2.2))))))))))))⟩ (fun hh => ?_)
      clear hK K
      refine pure_ (i := 6) (N := some 6) (v := ?_) (a' := ?_) #[true, true, true, true, true, true, true] rfl rfl (by kernel_rfl) (fun _ _ _ h => h) (Or.inl ⟨by rfl, ?_⟩) ?_ ?_
      rotate_left
      ·intro w'
       go_simp
       with_reducible rfl
      rotate_left
      ·simp only [Act.put, List.setIfInBounds_toArray, List.set_cons_zero, List.set_cons_succ, i64_w, i32_w]
       rfl
      refine done_ (by kernel_rfl) ?_
      try go_wp2
      refine bodyPost_ret (results_list (rs := [.tmp 4, .cell 5 33, .tmp 6]) rfl (by simp) (.tmp (.cell g3 33 #[.int .i64 ((rd_T33 t139 x9_1).f0), .string ((rd_T33 t139 x9_1).f1), .int .i64 ((rd_T33 t139 x9_1).f2), .int .i64 ((rd_T33 t139 x9_1).f3), .slice A145_4 ((rd_T33 t139 x9_1).f4).length c145_4, .slice A145_5 ((rd_T33 t139 x9_1).f5).length c145_5] (0, 0) _ rfl (by refine blk_put (cs := #[.int .i64 ((rd_T33 t139 x9_1).f0), .string ((rd_T33 t139 x9_1).f1), .int .i64 ((rd_T33 t139 x9_1).f2), .int .i64 ((rd_T33 t139 x9_1).f3), .slice A145_4 ((rd_T33 t139 x9_1).f4).length c145_4, .slice none 0 0]) ?_ 5 _ rfl; refine blk_put (cs := #[.int .i64 ((rd_T33 t139 x9_1).f0), .string ((rd_T33 t139 x9_1).f1), .int .i64 ((rd_T33 t139 x9_1).f2), .int .i64 ((rd_T33 t139 x9_1).f3), .slice none 0 0, .slice none 0 0]) ?_ 4 _ rfl; refine blk_put (cs := #[.int .i64 ((rd_T33 t139 x9_1).f0), .string ((rd_T33 t139 x9_1).f1), .int .i64 ((rd_T33 t139 x9_1).f2), .int .i64 x139003_1, .slice none 0 0, .slice none 0 0]) ?_ 3 _ rfl; refine blk_put (cs := #[.int .i64 ((rd_T33 t139 x9_1).f0), .string ((rd_T33 t139 x9_1).f1), .int .i64 x139002_1, .int .i64 x139003_1, .slice none 0 0, .slice none 0 0]) ?_ 2 _ rfl; refine blk_put (cs := #[.int .i64 ((rd_T33 t139 x9_1).f0), .string x139001_1, .int .i64 x139002_1, .int .i64 x139003_1, .slice none 0 0, .slice none 0 0]) ?_ 1 _ rfl; refine blk_put (cs := #[.int .i64 x139000_1, .string x139001_1, .int .i64 x139002_1, .int .i64 x139003_1, .slice none 0 0, .slice none 0 0]) ?_ 0 _ rfl; exact BK138.out) Try.underlying33 rfl (by kernel_rfl) (.tmp .nil)))) rfl ?_
      exact ⟨_, _, _, by rfl, by exact Kd.R_nil _ _ _ _ _, by exact Kd.V_mono (Kd.V_far (p := ⟨g3, 5, none⟩) (Kd.V_far (p := ⟨g3, 4, none⟩) (Kd.V_far (p := ⟨g3, 3, none⟩) (Kd.V_far (p := ⟨g3, 2, none⟩) (Kd.V_far (p := ⟨g3, 1, none⟩) (Kd.V_far (p := ⟨g3, 0, none⟩) (Kd.V_mono HL145_4.out (fun k_ hk => (⟨hk, hk.1.2.2⟩ : _ ∧ k_ ≠ g3))) (fun _ hk => hk.2) (.int .i64 ((rd_T33 t139 x9_1).f0))) (fun _ hk => hk.2) (.string ((rd_T33 t139 x9_1).f1))) (fun _ hk => hk.2) (.int .i64 ((rd_T33 t139 x9_1).f2))) (fun _ hk => hk.2) (.int .i64 ((rd_T33 t139 x9_1).f3))) (fun _ hk => hk.2) (.slice A145_4 ((rd_T33 t139 x9_1).f4).length c145_4)) (fun _ hk => hk.2) (.slice A145_5 ((rd_T33 t139 x9_1).f5).length c145_5)) (fun _ hk => ⟨hk.1.1.1, (by simp [Value.ownBlock])⟩), by exact Kd.V_mono (Kd.V_far (p := ⟨g3, 5, none⟩) (Kd.V_far (p := ⟨g3, 4, none⟩) (Kd.V_far (p := ⟨g3, 3, none⟩) (Kd.V_far (p := ⟨g3, 2, none⟩) (Kd.V_far (p := ⟨g3, 1, none⟩) (Kd.V_far (p := ⟨g3, 0, none⟩) (Kd.V_mono HL145_5.out (fun k_ hk => (⟨hk, hk.1.2.2⟩ : _ ∧ k_ ≠ g3))) (fun _ hk => hk.2) (.int .i64 ((rd_T33 t139 x9_1).f0))) (fun _ hk => hk.2) (.string ((rd_T33 t139 x9_1).f1))) (fun _ hk => hk.2) (.int .i64 ((rd_T33 t139 x9_1).f2))) (fun _ hk => hk.2) (.int .i64 ((rd_T33 t139 x9_1).f3))) (fun _ hk => hk.2) (.slice A145_4 ((rd_T33 t139 x9_1).f4).length c145_4)) (fun _ hk => hk.2) (.slice A145_5 ((rd_T33 t139 x9_1).f5).length c145_5)) (fun _ hk => ⟨hk.1.1.1, (by simp [Value.ownBlock])⟩), by repeat ((with_reducible first | exact HB.out | refine below_set ?_ GE138.out))⟩
     ·rw [if_neg c9] at H
      have c9b0 : decide (t144 < 0) = false := decide_eq_false c9
      clear c9
      by_cases c19 : 0 ≤ t144
      ·rw [if_pos c19] at H
       have c19b0 : decide (0 ≤ t144) = true := decide_eq_true c19
       clear c19
       by_cases c20 : t144 < (l1.length : Int)
       ·rw [if_pos c20] at H
        have c20b0 : decide (t144 < (l1.length : Int)) = true := decide_eq_true c20
        clear c20
        have HC21 := am9 H
        clear H
        obtain ⟨Ao22, co22, eo22⟩ := Kd.N_slice HO_8.out
        subst eo22
        try go_wp2
        have n0_ := am9 (Kd.R_drew HO_7.out)
        have n1_ := am9 (Kd.N_drew HO_8.out)
        have n2_ := am9 (blk_drew BK138.out)
        have n3_ := am9 (below_drew1 HB.out)
        clear HO_7
        clear HO_8
        clear BK138
        clear HB
        have HO_7 := n0_
        have HO_8 := n1_
        have BK138 := n2_
        have HB := n3_
        clear n0_ n1_ n2_ n3_
        have p142 : 0 ≤ (x9_1 : Int) := of_decide_eq_true (by with_reducible assumption)
        have q142 : x9_1 < (t139.length : Int) := of_decide_eq_true (by with_reducible assumption)
        obtain ⟨ad142, A142_4, c142_4, A142_5, c142_5, e142, hx142_0, hx142_1, hx142_2, hx142_3, hx142_4, hx142_5, hl142_4, hi142_4, hl142_5, hi142_5⟩ := at_T33 (Kd.N_reads' HO_8.out).2.2 x9_1 p142 q142
        cases e142
        obtain ⟨ce142, hce142, hMe142, hcc142⟩ := Kd.N_get HO_8.out z33 x9_1 p142 (by exact q142)
        obtain ⟨ua142_4, uc142_4, ua142_5, uc142_5, rfl, ul142_4, ge142_4, ul142_5, ge142_5⟩ := k33_openF hMe142
        have hv142_4 := hcc142 4 _ rfl
        rw [add_field _ _ 4 (by omega)] at hv142_4
        replace hv142_4 := Option.some.inj (hv142_4.symm.trans hx142_4)
        injection hv142_4 with hva_ hvn_ hvc_
        rw [hva_] at ge142_4
        rw [hvc_] at ul142_4
        have HL142_4 := am9 (show Kd.V k33 33 _ w.heap.size _ _ ((rd_T33 t139 x9_1).f4) from Kd.V_mk ul142_4 ge142_4)
        clear hva_ hvn_ hvc_ ge142_4 ul142_4
        have hv142_5 := hcc142 5 _ rfl
        rw [add_field _ _ 5 (by omega)] at hv142_5
        replace hv142_5 := Option.some.inj (hv142_5.symm.trans hx142_5)
        injection hv142_5 with hva_ hvn_ hvc_
        rw [hva_] at ge142_5
        rw [hvc_] at ul142_5
        have HL142_5 := am9 (show Kd.V k33 33 _ w.heap.size _ _ ((rd_T33 t139 x9_1).f5) from Kd.V_mk ul142_5 ge142_5)
        clear hva_ hvn_ hvc_ ge142_5 ul142_5
        clear hcc142 hce142
        have HR142_4 := am9 hi142_4
        have HC142_4 := am9 hl142_4
        clear hi142_4 hl142_4
        have HR142_5 := am9 hi142_5
        have HC142_5 := am9 hl142_5
        clear hi142_5 hl142_5
        replace p142 := eq_true p142
        replace q142 := eq_true q142
        have p143 : 0 ≤ (x9_1 : Int) := of_decide_eq_true (by with_reducible assumption)
        have q143 : x9_1 < (t139.length : Int) := of_decide_eq_true (by with_reducible assumption)
        obtain ⟨ad143, A143_4, c143_4, A143_5, c143_5, e143, hx143_0, hx143_1, hx143_2, hx143_3, hx143_4, hx143_5, hl143_4, hi143_4, hl143_5, hi143_5⟩ := at_T33 (Kd.N_reads' HO_8.out).2.2 x9_1 p143 q143
        obtain rfl : ad142 = ad143 := (by injection e143)
        obtain ⟨ce143, hce143, hMe143, hcc143⟩ := Kd.N_get HO_8.out z33 x9_1 p143 (by exact q143)
        obtain ⟨ua143_4, uc143_4, ua143_5, uc143_5, rfl, ul143_4, ge143_4, ul143_5, ge143_5⟩ := k33_openF hMe143
        have hv143_4 := hcc143 4 _ rfl
        rw [add_field _ _ 4 (by omega)] at hv143_4
        replace hv143_4 := Option.some.inj (hv143_4.symm.trans hx143_4)
        injection hv143_4 with hva_ hvn_ hvc_
        rw [hva_] at ge143_4
        rw [hvc_] at ul143_4
        have HL143_4 := am9 (show Kd.V k33 33 _ w.heap.size _ _ ((rd_T33 t139 x9_1).f4) from Kd.V_mk ul143_4 ge143_4)
        clear hva_ hvn_ hvc_ ge143_4 ul143_4
        have hv143_5 := hcc143 5 _ rfl
        rw [add_field _ _ 5 (by omega)] at hv143_5
        replace hv143_5 := Option.some.inj (hv143_5.symm.trans hx143_5)
        injection hv143_5 with hva_ hvn_ hvc_
        rw [hva_] at ge143_5
        rw [hvc_] at ul143_5
        have HL143_5 := am9 (show Kd.V k33 33 _ w.heap.size _ _ ((rd_T33 t139 x9_1).f5) from Kd.V_mk ul143_5 ge143_5)
        clear hva_ hvn_ hvc_ ge143_5 ul143_5
        clear hcc143 hce143
        have HR143_4 := am9 hi143_4
        have HC143_4 := am9 hl143_4
        clear hi143_4 hl143_4
        have HR143_5 := am9 hi143_5
        have HC143_5 := am9 hl143_5
        clear hi143_5 hl143_5
        replace p143 := eq_true p143
        replace q143 := eq_true q143
        have ea_ := Option.some.inj (hx142_4.symm.trans hx143_4)
        injection ea_ with ea_ en_ ec_
        subst ea_
        subst ec_
        clear en_
        have ea_ := Option.some.inj (hx142_5.symm.trans hx143_5)
        injection ea_ with ea_ en_ ec_
        subst ea_
        subst ec_
        clear en_
        refine start_ (n := 13) (S := fun w' => w'.cell? (ad142.add ((x9_1).toNat * 6)) = some (.int .i64 ((rd_T33 t139 x9_1).f0)) ∧ w'.cell? ⟨(ad142.add ((x9_1).toNat * 6)).block, (ad142.add ((x9_1).toNat * 6)).off + 1, none⟩ = some (.string ((rd_T33 t139 x9_1).f1)) ∧ w'.cell? ⟨(ad142.add ((x9_1).toNat * 6)).block, (ad142.add ((x9_1).toNat * 6)).off + 2, none⟩ = some (.int .i64 ((rd_T33 t139 x9_1).f2)) ∧ w'.cell? ⟨(ad142.add ((x9_1).toNat * 6)).block, (ad142.add ((x9_1).toNat * 6)).off + 3, none⟩ = some (.int .i64 ((rd_T33 t139 x9_1).f3)) ∧ w'.cell? ⟨(ad142.add ((x9_1).toNat * 6)).block, (ad142.add ((x9_1).toNat * 6)).off + 4, none⟩ = some (.slice A142_4 ((rd_T33 t139 x9_1).f4).length c142_4) ∧ w'.cell? ⟨(ad142.add ((x9_1).toNat * 6)).block, (ad142.add ((x9_1).toNat * 6)).off + 5, none⟩ = some (.slice A142_5 ((rd_T33 t139 x9_1).f5).length c142_5) ∧ w'.cell? (ad142.add ((x9_1).toNat * 6)) = some (.int .i64 ((rd_T33 t139 x9_1).f0)) ∧ w'.cell? ⟨(ad142.add ((x9_1).toNat * 6)).block, (ad142.add ((x9_1).toNat * 6)).off + 1, none⟩ = some (.string ((rd_T33 t139 x9_1).f1)) ∧ w'.cell? ⟨(ad142.add ((x9_1).toNat * 6)).block, (ad142.add ((x9_1).toNat * 6)).off + 2, none⟩ = some (.int .i64 ((rd_T33 t139 x9_1).f2)) ∧ w'.cell? ⟨(ad142.add ((x9_1).toNat * 6)).block, (ad142.add ((x9_1).toNat * 6)).off + 3, none⟩ = some (.int .i64 ((rd_T33 t139 x9_1).f3)) ∧ w'.cell? ⟨(ad142.add ((x9_1).toNat * 6)).block, (ad142.add ((x9_1).toNat * 6)).off + 4, none⟩ = some (.slice A142_4 ((rd_T33 t139 x9_1).f4).length c142_4) ∧ w'.cell? ⟨(ad142.add ((x9_1).toNat * 6)).block, (ad142.add ((x9_1).toNat * 6)).off + 5, none⟩ = some (.slice A142_5 ((rd_T33 t139 x9_1).f5).length c142_5)) (ds := []) #[false, false, false, false, false, false, false, false, false, false, false, false, false] (by kernel_rfl) rfl rfl ⟨hx142_0, hx142_1, hx142_2, hx142_3, hx142_4, hx142_5, hx143_0, hx143_1, hx143_2, hx143_3, hx143_4, hx143_5⟩ (fun hh => ?_); refine with_tabW orielref12_Match.tab6 orielref12_Match.bits6 (fun HT_ HW_ => ?_)
        generalize wr.drew = w23 at HO_7 HO_8 BK138 HB HL142_4 HL142_5 HL143_4 HL143_5 HR142_4 HR142_5 HR143_4 HR143_5 hx142_0 hx142_1 hx142_2 hx142_3 hx142_4 hx142_5 hx143_0 hx143_1 hx143_2 hx143_3 hx143_4 hx143_5 hh ⊢
        refine pure_ (i := 0) (N := some 22) (v := ?_) (a' := ?_) #[true, false, false, false, false, false, false, false, false, false, false, false, false] rfl rfl (any_of HT_.out (by kernel_rfl)) (fun _ _ _ h => h) (Or.inl ⟨by rfl, ?_⟩) ?_ ?_
        rotate_left
        ·intro w'
         go_simp
         with_reducible rfl
        rotate_left
        ·simp only [Act.put, List.setIfInBounds_toArray, List.set_cons_zero, List.set_cons_succ, i64_w, i32_w]
         rfl
        refine pure_ (i := 1) (N := some 23) (v := ?_) (a' := ?_) #[true, true, false, false, false, false, false, false, false, false, false, false, false] rfl rfl (any_of HT_.out (by kernel_rfl)) (fun _ _ _ h => h) (Or.inl ⟨by rfl, ?_⟩) ?_ ?_
        rotate_left
        ·intro w'
         go_simp
         with_reducible rfl
        rotate_left
        ·simp only [Act.put, List.setIfInBounds_toArray, List.set_cons_zero, List.set_cons_succ, i64_w, i32_w]
         rfl
        refine pure_ (i := 2) (N := some 24) (v := ?_) (a' := ?_) #[true, true, true, false, false, false, false, false, false, false, false, false, false] rfl rfl (any_of HT_.out (by kernel_rfl)) (fun _ _ _ h => h) (Or.inl ⟨by rfl, ?_⟩) ?_ ?_
        rotate_left
        ·intro w'
         go_simp
         with_reducible rfl
        rotate_left
        ·simp only [Act.put, List.setIfInBounds_toArray, List.set_cons_zero, List.set_cons_succ, i64_w, i32_w]
         rfl
        refine pure_ (i := 3) (N := some 25) (v := ?_) (a' := ?_) #[true, true, true, true, false, false, false, false, false, false, false, false, false] rfl rfl (any_of HT_.out (by kernel_rfl)) (fun _ _ _ h => h) (Or.inl ⟨by rfl, ?_⟩) ?_ ?_
        rotate_left
        ·intro w'
         go_simp
         with_reducible rfl
        rotate_left
        ·simp only [Act.put, List.setIfInBounds_toArray, List.set_cons_zero, List.set_cons_succ, i64_w, i32_w]
         rfl
        refine pure_ (i := 4) (N := some 26) (v := ?_) (a' := ?_) #[true, true, true, true, true, false, false, false, false, false, false, false, false] rfl rfl (any_of HT_.out (by kernel_rfl)) (fun _ _ _ h => h) (Or.inl ⟨by rfl, ?_⟩) ?_ ?_
        rotate_left
        ·intro w'
         go_simp
         with_reducible rfl
        rotate_left
        ·simp only [Act.put, List.setIfInBounds_toArray, List.set_cons_zero, List.set_cons_succ, i64_w, i32_w]
         rfl
        refine pure_ (i := 6) (N := some 28) (v := ?_) (a' := ?_) #[true, true, true, true, true, false, true, false, false, false, false, false, false] rfl rfl (any_of HT_.out (by kernel_rfl)) (fun _ _ _ h => h) (Or.inl ⟨by rfl, ?_⟩) ?_ ?_
        rotate_left
        ·intro w'
         go_simp
         with_reducible rfl
        rotate_left
        ·simp only [Act.put, List.setIfInBounds_toArray, List.set_cons_zero, List.set_cons_succ, i64_w, i32_w]
         rfl
        refine pure_ (i := 7) (N := some 29) (v := ?_) (a' := ?_) #[true, true, true, true, true, false, true, true, false, false, false, false, false] rfl rfl (any_of HT_.out (by kernel_rfl)) (fun _ _ _ h => h) (Or.inl ⟨by rfl, ?_⟩) ?_ ?_
        rotate_left
        ·intro w'
         go_simp
         with_reducible rfl
        rotate_left
        ·simp only [Act.put, List.setIfInBounds_toArray, List.set_cons_zero, List.set_cons_succ, i64_w, i32_w]
         rfl
        refine pure_ (i := 8) (N := some 30) (v := ?_) (a' := ?_) #[true, true, true, true, true, false, true, true, true, false, false, false, false] rfl rfl (any_of HT_.out (by kernel_rfl)) (fun _ _ _ h => h) (Or.inl ⟨by rfl, ?_⟩) ?_ ?_
        rotate_left
        ·intro w'
         go_simp
         with_reducible rfl
        rotate_left
        ·simp only [Act.put, List.setIfInBounds_toArray, List.set_cons_zero, List.set_cons_succ, i64_w, i32_w]
         rfl
        refine pure_ (i := 9) (N := some 31) (v := ?_) (a' := ?_) #[true, true, true, true, true, false, true, true, true, true, false, false, false] rfl rfl (any_of HT_.out (by kernel_rfl)) (fun _ _ _ h => h) (Or.inl ⟨by rfl, ?_⟩) ?_ ?_
        rotate_left
        ·intro w'
         go_simp
         with_reducible rfl
        rotate_left
        ·simp only [Act.put, List.setIfInBounds_toArray, List.set_cons_zero, List.set_cons_succ, i64_w, i32_w]
         rfl
        refine take_ (i := 5) (N := some 27) (v := ?_) (a' := ?_) #[true, true, true, true, true, true, true, true, true, true, false, false, false] rfl rfl (take_ofW HT_.out HW_.out (by kernel_rfl)) (fun _ _ _ h => h) (Or.inl ⟨by rfl, ?_⟩) hh ?_ ?_
        rotate_left
        ·rintro w' ⟨s0, s1, s2, s3, s4, s5, s6, s7, s8, s9, s10, s11⟩
         go_simp
         with_reducible rfl
        rotate_left
        ·simp only [Act.put, List.setIfInBounds_toArray, List.set_cons_zero, List.set_cons_succ, i64_w, i32_w]
         rfl
        refine take_ (i := 10) (N := some 32) (v := ?_) (a' := ?_) #[true, true, true, true, true, true, true, true, true, true, true, false, false] rfl rfl (take_ofW HT_.out HW_.out (by kernel_rfl)) (fun _ _ _ h => h) (Or.inl ⟨by rfl, ?_⟩) hh ?_ ?_
        rotate_left
        ·rintro w' ⟨s0, s1, s2, s3, s4, s5, s6, s7, s8, s9, s10, s11⟩
         go_simp
         with_reducible rfl
        rotate_left
        ·simp only [Act.put, List.setIfInBounds_toArray, List.set_cons_zero, List.set_cons_succ, i64_w, i32_w]
         rfl
        refine one_ (i := 11) (N := some 33) #[true, true, true, true, true, true, true, true, true, true, true, true, false] rfl rfl (one_of HT_.out (by kernel_rfl)) (by decide) (fun K hK => ?_)
        refine goes_ Try.func21 (by kernel_rfl) rfl #[.slice A1 l1.length c1, .int .i64 ((rd_T33 t139 x9_1).f0), .string ((rd_T33 t139 x9_1).f1)] (by rfl) rfl rfl (by (try simp only [List.map_toArray, List.map_cons, List.map_nil]); rfl) ?_
        with_reducible refine (orielref11_Find.calls k1 _ _ l1 ((rd_T33 t139 x9_1).f0) ((rd_T33 t139 x9_1).f1) t144 _ ?side1 ?side2 A8.out).mono ?_
        (case side1 => repeat (exact (Kd.C_below HR1.out HB.out)))
        (case side2 => exact HC1.out)
        rintro e w' ⟨rfl, ⟨nd, rfl⟩⟩
        refine ⟨_, rfl, ?_⟩
        refine hK.out _ _ ⟨hh.1, hh.2.1, hh.2.2.1, hh.2.2.2.1, hh.2.2.2.2.1, hh.2.2.2.2.2.1, hh.2.2.2.2.2.2.1, hh.2.2.2.2.2.2.2.1, hh.2.2.2.2.2.2.2.2.1, hh.2.2.2.2.2.2.2.2.2.1, hh.2.2.2.2.2.2.2.2.2.2.1, hh.2.2.2.2.2.2.2.2.2.2.2⟩ (fun hh => ?_)
        clear hK K
        refine norm_ (a' := ?_) ?_ ?_
        rotate_left
        ·show Act.put _ (some 33) _ = _
         simp only [Act.put, List.setIfInBounds_toArray, List.set_cons_zero, List.set_cons_succ, i64_w, i32_w]
         rfl
        refine pure_ (i := 12) (N := some 10) (v := ?_) (a' := ?_) #[true, true, true, true, true, true, true, true, true, true, true, true, true] rfl rfl (any_of HT_.out (by kernel_rfl)) (fun _ _ _ h => h) (Or.inl ⟨by rfl, ?_⟩) ?_ ?_
        rotate_left
        ·intro w'
         go_simp
         with_reducible rfl
        rotate_left
        ·simp only [Act.put, List.setIfInBounds_toArray, List.set_cons_zero, List.set_cons_succ, i64_w, i32_w]
         rfl
        refine done_ (done_of HT_.out (by kernel_rfl)) ?_
        try go_wp2
        (try (rw [drewN_self w23]; generalize hq_ : World.drewN w23 _ = w23; have n0_ : Aside0 (Kd.V k33 33 w23 w.heap.size (fun k_ => (P0_ k_ ∨ w.heap.size ≤ k_) ∧ some k_ ≠ (u7 : Value).ownBlock ∧ some k_ ≠ (.slice (some ad142) t139.length co22 : Value).ownBlock ∧ k_ ≠ g3) (.slice A142_4 ((rd_T33 t139 x9_1).f4).length c142_4) ((rd_T33 t139 x9_1).f4)) := ⟨by rw [← hq_]; exact (by (with_reducible repeat (apply Kd.V_drewN)); exact Kd.V_mono HL142_4.out (fun _ hk => ⟨hk.1.1, ⟨hk.1.2.1, ⟨hk.2, hk.1.2.2⟩⟩⟩))⟩; have n1_ : Aside0 (Kd.V k33 33 w23 w.heap.size (fun k_ => (P0_ k_ ∨ w.heap.size ≤ k_) ∧ some k_ ≠ (u7 : Value).ownBlock ∧ some k_ ≠ (.slice (some ad142) t139.length co22 : Value).ownBlock ∧ k_ ≠ g3) (.slice A142_5 ((rd_T33 t139 x9_1).f5).length c142_5) ((rd_T33 t139 x9_1).f5)) := ⟨by rw [← hq_]; exact (by (with_reducible repeat (apply Kd.V_drewN)); exact Kd.V_mono HL142_5.out (fun _ hk => ⟨hk.1.1, ⟨hk.1.2.1, ⟨hk.2, hk.1.2.2⟩⟩⟩))⟩; have n2_ : Aside0 (Kd.V k33 33 w23 w.heap.size (fun k_ => (P0_ k_ ∨ w.heap.size ≤ k_) ∧ some k_ ≠ (u7 : Value).ownBlock ∧ some k_ ≠ (.slice (some ad142) t139.length co22 : Value).ownBlock ∧ k_ ≠ g3) (.slice A142_4 ((rd_T33 t139 x9_1).f4).length c142_4) ((rd_T33 t139 x9_1).f4)) := ⟨by rw [← hq_]; exact (by (with_reducible repeat (apply Kd.V_drewN)); exact Kd.V_mono HL143_4.out (fun _ hk => ⟨hk.1.1, ⟨hk.1.2.1, ⟨hk.2, hk.1.2.2⟩⟩⟩))⟩; have n3_ : Aside0 (Kd.V k33 33 w23 w.heap.size (fun k_ => (P0_ k_ ∨ w.heap.size ≤ k_) ∧ some k_ ≠ (u7 : Value).ownBlock ∧ some k_ ≠ (.slice (some ad142) t139.length co22 : Value).ownBlock ∧ k_ ≠ g3) (.slice A142_5 ((rd_T33 t139 x9_1).f5).length c142_5) ((rd_T33 t139 x9_1).f5)) := ⟨by rw [← hq_]; exact (by (with_reducible repeat (apply Kd.V_drewN)); exact Kd.V_mono HL143_5.out (fun _ hk => ⟨hk.1.1, ⟨hk.1.2.1, ⟨hk.2, hk.1.2.2⟩⟩⟩))⟩; have n4_ : Aside0 (Kd.R k42 42 w23 w.heap.size (fun k_ => (w.heap.size ≤ k_)) u7 x7_1) := ⟨by rw [← hq_]; exact (by (with_reducible repeat (apply Kd.R_drewN)); exact HO_7.out)⟩; have n5_ : Aside0 (Kd.N k33 33 w23 w.heap.size (fun k_ => (P0_ k_ ∨ w.heap.size ≤ k_) ∧ some k_ ≠ (u7 : Value).ownBlock ∧ k_ ≠ g3) (.slice (some ad142) t139.length co22) t139) := ⟨by rw [← hq_]; exact (by (with_reducible repeat (apply Kd.N_drewN)); exact HO_8.out)⟩; have n6_ : Aside0 (w23.heap[g3]? = some (.cells #[.int .i64 x139000_1, .string x139001_1, .int .i64 x139002_1, .int .i64 x139003_1, .slice none 0 0, .slice none 0 0] 33 (0, 0))) := ⟨by rw [← hq_]; exact (by (with_reducible repeat (refine blk_drewN ?_ _)); exact BK138.out)⟩; have n7_ : Aside0 (Below w.heap.size w w23) := ⟨by rw [← hq_]; exact (by repeat ((with_reducible first | exact HB.out | apply pw_below_drewN )))⟩; have n8_ : Aside0 (Kd.C k33 w23 A142_4 ((rd_T33 t139 x9_1).f4).length ((rd_T33 t139 x9_1).f4)) := ⟨by rw [← hq_]; exact (by repeat (first | (with_reducible exact HR142_4.out) | (with_reducible refine Kd.C_drewN ?_ _) ))⟩; have n9_ : Aside0 (Kd.C k33 w23 A142_5 ((rd_T33 t139 x9_1).f5).length ((rd_T33 t139 x9_1).f5)) := ⟨by rw [← hq_]; exact (by repeat (first | (with_reducible exact HR142_5.out) | (with_reducible refine Kd.C_drewN ?_ _) ))⟩; have n10_ : Aside0 (Kd.C k33 w23 A142_4 ((rd_T33 t139 x9_1).f4).length ((rd_T33 t139 x9_1).f4)) := ⟨by rw [← hq_]; exact (by repeat (first | (with_reducible exact HR143_4.out) | (with_reducible refine Kd.C_drewN ?_ _) ))⟩; have n11_ : Aside0 (Kd.C k33 w23 A142_5 ((rd_T33 t139 x9_1).f5).length ((rd_T33 t139 x9_1).f5)) := ⟨by rw [← hq_]; exact (by repeat (first | (with_reducible exact HR143_5.out) | (with_reducible refine Kd.C_drewN ?_ _) ))⟩; clear HL142_4 HL142_5 HL143_4 HL143_5 HO_7 HO_8 BK138 HB HR142_4 HR142_5 HR143_4 HR143_5 hq_; have HL142_4 := n0_; have HL142_5 := n1_; have HL143_4 := n2_; have HL143_5 := n3_; have HO_7 := n4_; have HO_8 := n5_; have BK138 := n6_; have HB := n7_; have HR142_4 := n8_; have HR142_5 := n9_; have HR143_4 := n10_; have HR143_5 := n11_; clear n0_ n1_ n2_ n3_ n4_ n5_ n6_ n7_ n8_ n9_ n10_ n11_))
        have n0_ := am9 (Kd.R_drew HO_7.out)
        have n1_ := am9 (Kd.N_drew HO_8.out)
        have n2_ := am9 (Kd.V_drew HL142_4.out)
        have n3_ := am9 (Kd.V_drew HL142_5.out)
        have n4_ := am9 (Kd.V_drew HL143_4.out)
        have n5_ := am9 (Kd.V_drew HL143_5.out)
        have n6_ := am9 (blk_drew BK138.out)
        have n7_ := am9 (Kd.C_drew HR142_4.out)
        have n8_ := am9 (Kd.C_drew HR142_5.out)
        have n9_ := am9 (Kd.C_drew HR143_4.out)
        have n10_ := am9 (Kd.C_drew HR143_5.out)
        have n11_ := am9 (below_drew1 HB.out)
        clear HO_7
        clear HO_8
        clear HL142_4
        clear HL142_5
        clear HL143_4
        clear HL143_5
        clear BK138
        clear HR142_4
        clear HR142_5
        clear HR143_4
        clear HR143_5
        clear HB
        have HO_7 := n0_
        have HO_8 := n1_
        have HL142_4 := n2_
        have HL142_5 := n3_
        have HL143_4 := n4_
        have HL143_5 := n5_
        have BK138 := n6_
        have HR142_4 := n7_
        have HR142_5 := n8_
        have HR143_4 := n9_
        have HR143_5 := n10_
        have HB := n11_
        clear n0_ n1_ n2_ n3_ n4_ n5_ n6_ n7_ n8_ n9_ n10_ n11_
        have p146 : 0 ≤ (x9_1 : Int) := of_decide_eq_true (by with_reducible assumption)
        have q146 : x9_1 < (t139.length : Int) := of_decide_eq_true (by with_reducible assumption)
        obtain ⟨ad146, A146_4, c146_4, A146_5, c146_5, e146, hx146_0, hx146_1, hx146_2, hx146_3, hx146_4, hx146_5, hl146_4, hi146_4, hl146_5, hi146_5⟩ := at_T33 (Kd.N_reads' HO_8.out).2.2 x9_1 p146 q146
        obtain rfl : ad142 = ad146 := (by injection e146)
        obtain ⟨ce146, hce146, hMe146, hcc146⟩ := Kd.N_get HO_8.out z33 x9_1 p146 (by exact q146)
        obtain ⟨ua146_4, uc146_4, ua146_5, uc146_5, rfl, ul146_4, ge146_4, ul146_5, ge146_5⟩ := k33_openF hMe146
        have hv146_4 := hcc146 4 _ rfl
        rw [add_field _ _ 4 (by omega)] at hv146_4
        replace hv146_4 := Option.some.inj (hv146_4.symm.trans hx146_4)
        injection hv146_4 with hva_ hvn_ hvc_
        rw [hva_] at ge146_4
        rw [hvc_] at ul146_4
        have HL146_4 := am9 (show Kd.V k33 33 _ w.heap.size _ _ ((rd_T33 t139 x9_1).f4) from Kd.V_mk ul146_4 ge146_4)
        clear hva_ hvn_ hvc_ ge146_4 ul146_4
        have hv146_5 := hcc146 5 _ rfl
        rw [add_field _ _ 5 (by omega)] at hv146_5
        replace hv146_5 := Option.some.inj (hv146_5.symm.trans hx146_5)
        injection hv146_5 with hva_ hvn_ hvc_
        rw [hva_] at ge146_5
        rw [hvc_] at ul146_5
        have HL146_5 := am9 (show Kd.V k33 33 _ w.heap.size _ _ ((rd_T33 t139 x9_1).f5) from Kd.V_mk ul146_5 ge146_5)
        clear hva_ hvn_ hvc_ ge146_5 ul146_5
        clear hcc146 hce146
        have HR146_4 := am9 hi146_4
        have HC146_4 := am9 hl146_4
        clear hi146_4 hl146_4
        have HR146_5 := am9 hi146_5
        have HC146_5 := am9 hl146_5
        clear hi146_5 hl146_5
        replace p146 := eq_true p146
        replace q146 := eq_true q146
        have p147 : 0 ≤ (t144 : Int) := of_decide_eq_true (by with_reducible assumption)
        have q147 : t144 < (l1.length : Int) := of_decide_eq_true (by with_reducible assumption)
        obtain ⟨ad147, A147_4, c147_4, A147_5, c147_5, e147, hx147_0, hx147_1, hx147_2, hx147_3, hx147_4, hx147_5, hl147_4, hi147_4, hl147_5, hi147_5⟩ := at_T33 HR1.out t144 p147 q147
        have hw147_5 := hx147_5
        have hw147_4 := hx147_4
        have hw147_3 := hx147_3
        have hw147_2 := hx147_2
        have hw147_1 := hx147_1
        have hw147_0 := hx147_0
        cases e147
        replace hx147_0 := (HB.out.cell (bl9 w _ hx147_0)).trans hx147_0
        replace hx147_1 := (HB.out.cell (bl9 w _ hx147_1)).trans hx147_1
        replace hx147_2 := (HB.out.cell (bl9 w _ hx147_2)).trans hx147_2
        replace hx147_3 := (HB.out.cell (bl9 w _ hx147_3)).trans hx147_3
        replace hx147_4 := (HB.out.cell (bl9 w _ hx147_4)).trans hx147_4
        replace hx147_5 := (HB.out.cell (bl9 w _ hx147_5)).trans hx147_5
        have HR147_4 := am9 hi147_4
        have HC147_4 := am9 hl147_4
        clear hi147_4 hl147_4
        have HR147_5 := am9 hi147_5
        have HC147_5 := am9 hl147_5
        clear hi147_5 hl147_5
        replace p147 := eq_true p147
        replace q147 := eq_true q147
        refine start_ (n := 11) (S := fun w' => w'.cell? (ad142.add ((x9_1).toNat * 6)) = some (.int .i64 ((rd_T33 t139 x9_1).f0)) ∧ w'.cell? ⟨(ad142.add ((x9_1).toNat * 6)).block, (ad142.add ((x9_1).toNat * 6)).off + 1, none⟩ = some (.string ((rd_T33 t139 x9_1).f1)) ∧ w'.cell? ⟨(ad142.add ((x9_1).toNat * 6)).block, (ad142.add ((x9_1).toNat * 6)).off + 2, none⟩ = some (.int .i64 ((rd_T33 t139 x9_1).f2)) ∧ w'.cell? ⟨(ad142.add ((x9_1).toNat * 6)).block, (ad142.add ((x9_1).toNat * 6)).off + 3, none⟩ = some (.int .i64 ((rd_T33 t139 x9_1).f3)) ∧ w'.cell? ⟨(ad142.add ((x9_1).toNat * 6)).block, (ad142.add ((x9_1).toNat * 6)).off + 4, none⟩ = some (.slice A146_4 ((rd_T33 t139 x9_1).f4).length c146_4) ∧ w'.cell? ⟨(ad142.add ((x9_1).toNat * 6)).block, (ad142.add ((x9_1).toNat * 6)).off + 5, none⟩ = some (.slice A146_5 ((rd_T33 t139 x9_1).f5).length c146_5) ∧ w'.cell? (ad147.add ((t144).toNat * 6)) = some (.int .i64 ((rd_T33 l1 t144).f0)) ∧ w'.cell? ⟨(ad147.add ((t144).toNat * 6)).block, (ad147.add ((t144).toNat * 6)).off + 1, none⟩ = some (.string ((rd_T33 l1 t144).f1)) ∧ w'.cell? ⟨(ad147.add ((t144).toNat * 6)).block, (ad147.add ((t144).toNat * 6)).off + 2, none⟩ = some (.int .i64 ((rd_T33 l1 t144).f2)) ∧ w'.cell? ⟨(ad147.add ((t144).toNat * 6)).block, (ad147.add ((t144).toNat * 6)).off + 3, none⟩ = some (.int .i64 ((rd_T33 l1 t144).f3)) ∧ w'.cell? ⟨(ad147.add ((t144).toNat * 6)).block, (ad147.add ((t144).toNat * 6)).off + 4, none⟩ = some (.slice A147_4 ((rd_T33 l1 t144).f4).length c147_4) ∧ w'.cell? ⟨(ad147.add ((t144).toNat * 6)).block, (ad147.add ((t144).toNat * 6)).off + 5, none⟩ = some (.slice A147_5 ((rd_T33 l1 t144).f5).length c147_5)) (ds := []) #[false, false, false, false, false, false, false, false, false, false, false] (by kernel_rfl) rfl rfl ⟨hx146_0, hx146_1, hx146_2, hx146_3, hx146_4, hx146_5, ((HB.out.cell (bl9 w _ hw147_0)).trans hw147_0), ((HB.out.cell (bl9 w _ hw147_1)).trans hw147_1), ((HB.out.cell (bl9 w _ hw147_2)).trans hw147_2), ((HB.out.cell (bl9 w _ hw147_3)).trans hw147_3), ((HB.out.cell (bl9 w _ hw147_4)).trans hw147_4), ((HB.out.cell (bl9 w _ hw147_5)).trans hw147_5)⟩ (fun hh => ?_); refine with_tabW orielref12_Match.tab9 orielref12_Match.bits9 (fun HT_ HW_ => ?_)
        generalize w23.drew = w24 at HO_7 HO_8 HL142_4 HL142_5 HL143_4 HL143_5 BK138 HR142_4 HR142_5 HR143_4 HR143_5 HB HL146_4 HL146_5 HR146_4 HR146_5 HR147_4 HR147_5 hx146_0 hx146_1 hx146_2 hx146_3 hx146_4 hx146_5 hx147_0 hx147_1 hx147_2 hx147_3 hx147_4 hx147_5 hh ⊢
        refine pure_ (i := 0) (N := some 40) (v := ?_) (a' := ?_) #[true, false, false, false, false, false, false, false, false, false, false] rfl rfl (any_of HT_.out (by kernel_rfl)) (fun _ _ _ h => h) (Or.inl ⟨by rfl, ?_⟩) ?_ ?_
        rotate_left
        ·intro w'
         go_simp
         with_reducible rfl
        rotate_left
        ·simp only [Act.put, List.setIfInBounds_toArray, List.set_cons_zero, List.set_cons_succ, i64_w, i32_w]
         rfl
        refine pure_ (i := 1) (N := some 41) (v := ?_) (a' := ?_) #[true, true, false, false, false, false, false, false, false, false, false] rfl rfl (any_of HT_.out (by kernel_rfl)) (fun _ _ _ h => h) (Or.inl ⟨by rfl, ?_⟩) ?_ ?_
        rotate_left
        ·intro w'
         go_simp
         with_reducible rfl
        rotate_left
        ·simp only [Act.put, List.setIfInBounds_toArray, List.set_cons_zero, List.set_cons_succ, i64_w, i32_w]
         rfl
        refine pure_ (i := 2) (N := some 42) (v := ?_) (a' := ?_) #[true, true, true, false, false, false, false, false, false, false, false] rfl rfl (any_of HT_.out (by kernel_rfl)) (fun _ _ _ h => h) (Or.inl ⟨by rfl, ?_⟩) ?_ ?_
        rotate_left
        ·intro w'
         go_simp
         with_reducible rfl
        rotate_left
        ·simp only [Act.put, List.setIfInBounds_toArray, List.set_cons_zero, List.set_cons_succ, i64_w, i32_w]
         rfl
        refine pure_ (i := 3) (N := some 43) (v := ?_) (a' := ?_) #[true, true, true, true, false, false, false, false, false, false, false] rfl rfl (any_of HT_.out (by kernel_rfl)) (fun _ _ _ h => h) (Or.inl ⟨by rfl, ?_⟩) ?_ ?_
        rotate_left
        ·intro w'
         go_simp
         with_reducible rfl
        rotate_left
        ·simp only [Act.put, List.setIfInBounds_toArray, List.set_cons_zero, List.set_cons_succ, i64_w, i32_w]
         rfl
        refine pure_ (i := 5) (N := some 45) (v := ?_) (a' := ?_) #[true, true, true, true, false, true, false, false, false, false, false] rfl rfl (any_of HT_.out (by kernel_rfl)) (fun _ _ _ h => h) (Or.inl ⟨by rfl, ?_⟩) ?_ ?_
        rotate_left
        ·intro w'
         go_simp
         with_reducible rfl
        rotate_left
        ·simp only [Act.put, List.setIfInBounds_toArray, List.set_cons_zero, List.set_cons_succ, i64_w, i32_w]
         rfl
        refine pure_ (i := 6) (N := some 46) (v := ?_) (a' := ?_) #[true, true, true, true, false, true, true, false, false, false, false] rfl rfl (any_of HT_.out (by kernel_rfl)) (fun _ _ _ h => h) (Or.inl ⟨by rfl, ?_⟩) ?_ ?_
        rotate_left
        ·intro w'
         go_simp
         with_reducible rfl
        rotate_left
        ·simp only [Act.put, List.setIfInBounds_toArray, List.set_cons_zero, List.set_cons_succ, i64_w, i32_w]
         rfl
        refine pure_ (i := 7) (N := some 47) (v := ?_) (a' := ?_) #[true, true, true, true, false, true, true, true, false, false, false] rfl rfl (any_of HT_.out (by kernel_rfl)) (fun _ _ _ h => h) (Or.inl ⟨by rfl, ?_⟩) ?_ ?_
        rotate_left
        ·intro w'
         go_simp
         with_reducible rfl
        rotate_left
        ·simp only [Act.put, List.setIfInBounds_toArray, List.set_cons_zero, List.set_cons_succ, i64_w, i32_w]
         rfl
        refine pure_ (i := 8) (N := some 48) (v := ?_) (a' := ?_) #[true, true, true, true, false, true, true, true, true, false, false] rfl rfl (any_of HT_.out (by kernel_rfl)) (fun _ _ _ h => h) (Or.inl ⟨by rfl, ?_⟩) ?_ ?_
        rotate_left
        ·intro w'
         go_simp
         with_reducible rfl
        rotate_left
        ·simp only [Act.put, List.setIfInBounds_toArray, List.set_cons_zero, List.set_cons_succ, i64_w, i32_w]
         rfl
        refine take_ (i := 4) (N := some 44) (v := ?_) (a' := ?_) #[true, true, true, true, true, true, true, true, true, false, false] rfl rfl (take_ofW HT_.out HW_.out (by kernel_rfl)) (fun _ _ _ h => h) (Or.inl ⟨by rfl, ?_⟩) hh ?_ ?_
        rotate_left
        ·rintro w' ⟨s0, s1, s2, s3, s4, s5, s6, s7, s8, s9, s10, s11⟩
         go_simp
         with_reducible rfl
        rotate_left
        ·simp only [Act.put, List.setIfInBounds_toArray, List.set_cons_zero, List.set_cons_succ, i64_w, i32_w]
         rfl
        refine take_ (i := 9) (N := some 49) (v := ?_) (a' := ?_) #[true, true, true, true, true, true, true, true, true, true, false] rfl rfl (take_ofW HT_.out HW_.out (by kernel_rfl)) (fun _ _ _ h => h) (Or.inl ⟨by rfl, ?_⟩) hh ?_ ?_
        rotate_left
        ·rintro w' ⟨s0, s1, s2, s3, s4, s5, s6, s7, s8, s9, s10, s11⟩
         go_simp
         with_reducible rfl
        rotate_left
        ·simp only [Act.put, List.setIfInBounds_toArray, List.set_cons_zero, List.set_cons_succ, i64_w, i32_w]
         rfl
        refine pure_ (i := 10) (N := some 50) (v := ?_) (a' := ?_) #[true, true, true, true, true, true, true, true, true, true, true] rfl rfl (any_of HT_.out (by kernel_rfl)) (fun _ _ _ h => h) (Or.inl ⟨by rfl, ?_⟩) ?_ ?_
        rotate_left
        ·intro w'
         go_simp
         with_reducible rfl
        rotate_left
        ·simp only [Act.put, List.setIfInBounds_toArray, List.set_cons_zero, List.set_cons_succ, i64_w, i32_w]
         rfl
        refine done_ (done_of HT_.out (by kernel_rfl)) ?_
        go_upto_if 50 with (fail)
        go_cut [7] (fun v7 wc => ∃ (kq : Nat) (x7_20 : List (S42)), Aside0 (orielref12_Match.j1 kq l1 x7_20 t139 x9_1 t144 = some (r1, r2, r3, r4, r5, r6, r7, r8)) ∧ Aside0 (kq ≤ k1) ∧ Aside0 (Kd.R k42 42 wc w.heap.size (fun k_ => (w.heap.size ≤ k_)) v7 x7_20) ∧ Aside0 (Kd.N k33 33 wc w.heap.size (fun k_ => (P0_ k_ ∨ w.heap.size ≤ k_) ∧ some k_ ≠ (v7 : Value).ownBlock ∧ k_ ≠ g3) (.slice (some ad142) t139.length co22) t139) ∧ Aside0 (wc.heap[g3]? = some (.cells #[.int .i64 x139000_1, .string x139001_1, .int .i64 x139002_1, .int .i64 x139003_1, (.slice none 0 0), (.slice none 0 0)] 33 (0, 0))) ∧ Aside0 (Below w.heap.size w wc))
        case first =>
         have H := HC21.out
         clear HC21
         by_cases c25 : ((rd_T33 t139 x9_1).f2) = ((rd_T33 l1 t144).f2)
         ·rw [if_pos c25] at H
          have c25b0 : (((rd_T33 t139 x9_1).f2) == ((rd_T33 l1 t144).f2)) = true := beq_iff_eq.mpr c25
          have c25b1 : (((rd_T33 t139 x9_1).f2) != ((rd_T33 l1 t144).f2)) = false := bne_eq_false_iff_eq.mpr c25
          clear c25
          (skip)
          have H' := am9 H
          clear H
          go_wp2
          go_meet
          case rel => exact ⟨_, (x7_1), H', ⟨by have := HK1.out; omega⟩, ⟨by exact HO_7.out⟩, ⟨by exact HO_8.out⟩, ⟨by exact BK138.out⟩, ⟨by repeat (with_reducible exact HB.out)⟩⟩
         ·rw [if_neg c25] at H
          have c25b0 : (((rd_T33 t139 x9_1).f2) == ((rd_T33 l1 t144).f2)) = false := beq_eq_false_iff_ne.mpr c25
          have c25b1 : (((rd_T33 t139 x9_1).f2) != ((rd_T33 l1 t144).f2)) = true := bne_iff_ne.mpr c25
          (skip)
          by_cases c26 : x7_1.length < 8796093022208
          ·rw [if_pos c26] at H
           have LMc26 := am9 c26
           clear c26
           obtain ⟨y150, hy150⟩ : ∃ y_ : List (S42), y_ = (x7_1 ++ [(⟨(rd_T33 t139 x9_1).f2, (rd_T33 l1 t144).f2⟩ : S42)]) := ⟨_, rfl⟩
           replace H : (orielref12_Match.j1 k1 l1 y150 t139 x9_1 t144) = some (r1, r2, r3, r4, r5, r6, r7, r8) := by (rw [hy150]; with_reducible exact H)
           have Ny150 := am9 hy150
           clear hy150
           have H' := am9 H
           clear H
           try go_wp2
           have n0_ := am9 (Kd.R_drew HO_7.out)
           have n1_ := am9 (Kd.N_drew HO_8.out)
           have n2_ := am9 (Kd.V_drew HL142_4.out)
           have n3_ := am9 (Kd.V_drew HL142_5.out)
           have n4_ := am9 (Kd.V_drew HL143_4.out)
           have n5_ := am9 (Kd.V_drew HL143_5.out)
           have n6_ := am9 (Kd.V_drew HL146_4.out)
           have n7_ := am9 (Kd.V_drew HL146_5.out)
           have n8_ := am9 (blk_drew BK138.out)
           have n9_ := am9 (Kd.C_drew HR142_4.out)
           have n10_ := am9 (Kd.C_drew HR142_5.out)
           have n11_ := am9 (Kd.C_drew HR143_4.out)
           have n12_ := am9 (Kd.C_drew HR143_5.out)
           have n13_ := am9 (Kd.C_drew HR146_4.out)
           have n14_ := am9 (Kd.C_drew HR146_5.out)
           have n15_ := am9 (below_drew1 HB.out)
           clear HO_7
           clear HO_8
           clear HL142_4
           clear HL142_5
           clear HL143_4
           clear HL143_5
           clear HL146_4
           clear HL146_5
           clear BK138
           clear HR142_4
           clear HR142_5
           clear HR143_4
           clear HR143_5
           clear HR146_4
           clear HR146_5
           clear HB
           have HO_7 := n0_
           have HO_8 := n1_
           have HL142_4 := n2_
           have HL142_5 := n3_
           have HL143_4 := n4_
           have HL143_5 := n5_
           have HL146_4 := n6_
           have HL146_5 := n7_
           have BK138 := n8_
           have HR142_4 := n9_
           have HR142_5 := n10_
           have HR143_4 := n11_
           have HR143_5 := n12_
           have HR146_4 := n13_
           have HR146_5 := n14_
           have HB := n15_
           clear n0_ n1_ n2_ n3_ n4_ n5_ n6_ n7_ n8_ n9_ n10_ n11_ n12_ n13_ n14_ n15_
           have p148 : 0 ≤ (x9_1 : Int) := of_decide_eq_true (by with_reducible assumption)
           have q148 : x9_1 < (t139.length : Int) := of_decide_eq_true (by with_reducible assumption)
           obtain ⟨ad148, A148_4, c148_4, A148_5, c148_5, e148, hx148_0, hx148_1, hx148_2, hx148_3, hx148_4, hx148_5, hl148_4, hi148_4, hl148_5, hi148_5⟩ := at_T33 (Kd.N_reads' HO_8.out).2.2 x9_1 p148 q148
           obtain rfl : ad142 = ad148 := (by injection e148)
           obtain ⟨ce148, hce148, hMe148, hcc148⟩ := Kd.N_get HO_8.out z33 x9_1 p148 (by exact q148)
           obtain ⟨ua148_4, uc148_4, ua148_5, uc148_5, rfl, ul148_4, ge148_4, ul148_5, ge148_5⟩ := k33_openF hMe148
           have hv148_4 := hcc148 4 _ rfl
           rw [add_field _ _ 4 (by omega)] at hv148_4
           replace hv148_4 := Option.some.inj (hv148_4.symm.trans hx148_4)
           injection hv148_4 with hva_ hvn_ hvc_
           rw [hva_] at ge148_4
           rw [hvc_] at ul148_4
           have HL148_4 := am9 (show Kd.V k33 33 _ w.heap.size _ _ ((rd_T33 t139 x9_1).f4) from Kd.V_mk ul148_4 ge148_4)
           clear hva_ hvn_ hvc_ ge148_4 ul148_4
           have hv148_5 := hcc148 5 _ rfl
           rw [add_field _ _ 5 (by omega)] at hv148_5
           replace hv148_5 := Option.some.inj (hv148_5.symm.trans hx148_5)
           injection hv148_5 with hva_ hvn_ hvc_
           rw [hva_] at ge148_5
           rw [hvc_] at ul148_5
           have HL148_5 := am9 (show Kd.V k33 33 _ w.heap.size _ _ ((rd_T33 t139 x9_1).f5) from Kd.V_mk ul148_5 ge148_5)
           clear hva_ hvn_ hvc_ ge148_5 ul148_5
           clear hcc148 hce148
           have HR148_4 := am9 hi148_4
           have HC148_4 := am9 hl148_4
           clear hi148_4 hl148_4
           have HR148_5 := am9 hi148_5
           have HC148_5 := am9 hl148_5
           clear hi148_5 hl148_5
           replace p148 := eq_true p148
           replace q148 := eq_true q148
           have p149 : 0 ≤ (t144 : Int) := of_decide_eq_true (by with_reducible assumption)
           have q149 : t144 < (l1.length : Int) := of_decide_eq_true (by with_reducible assumption)
           obtain ⟨ad149, A149_4, c149_4, A149_5, c149_5, e149, hx149_0, hx149_1, hx149_2, hx149_3, hx149_4, hx149_5, hl149_4, hi149_4, hl149_5, hi149_5⟩ := at_T33 HR1.out t144 p149 q149
           have hw149_5 := hx149_5
           have hw149_4 := hx149_4
           have hw149_3 := hx149_3
           have hw149_2 := hx149_2
           have hw149_1 := hx149_1
           have hw149_0 := hx149_0
           obtain rfl : ad147 = ad149 := (by injection e149)
           replace hx149_0 := (HB.out.cell (bl9 w _ hx149_0)).trans hx149_0
           replace hx149_1 := (HB.out.cell (bl9 w _ hx149_1)).trans hx149_1
           replace hx149_2 := (HB.out.cell (bl9 w _ hx149_2)).trans hx149_2
           replace hx149_3 := (HB.out.cell (bl9 w _ hx149_3)).trans hx149_3
           replace hx149_4 := (HB.out.cell (bl9 w _ hx149_4)).trans hx149_4
           replace hx149_5 := (HB.out.cell (bl9 w _ hx149_5)).trans hx149_5
           have HR149_4 := am9 hi149_4
           have HC149_4 := am9 hl149_4
           clear hi149_4 hl149_4
           have HR149_5 := am9 hi149_5
           have HC149_5 := am9 hl149_5
           clear hi149_5 hl149_5
           replace p149 := eq_true p149
           replace q149 := eq_true q149
           refine start_ (n := 15) (S := fun w' => w'.cell? (ad142.add ((x9_1).toNat * 6)) = some (.int .i64 ((rd_T33 t139 x9_1).f0)) ∧ w'.cell? ⟨(ad142.add ((x9_1).toNat * 6)).block, (ad142.add ((x9_1).toNat * 6)).off + 1, none⟩ = some (.string ((rd_T33 t139 x9_1).f1)) ∧ w'.cell? ⟨(ad142.add ((x9_1).toNat * 6)).block, (ad142.add ((x9_1).toNat * 6)).off + 2, none⟩ = some (.int .i64 ((rd_T33 t139 x9_1).f2)) ∧ w'.cell? ⟨(ad142.add ((x9_1).toNat * 6)).block, (ad142.add ((x9_1).toNat * 6)).off + 3, none⟩ = some (.int .i64 ((rd_T33 t139 x9_1).f3)) ∧ w'.cell? ⟨(ad142.add ((x9_1).toNat * 6)).block, (ad142.add ((x9_1).toNat * 6)).off + 4, none⟩ = some (.slice A148_4 ((rd_T33 t139 x9_1).f4).length c148_4) ∧ w'.cell? ⟨(ad142.add ((x9_1).toNat * 6)).block, (ad142.add ((x9_1).toNat * 6)).off + 5, none⟩ = some (.slice A148_5 ((rd_T33 t139 x9_1).f5).length c148_5) ∧ w'.cell? (ad147.add ((t144).toNat * 6)) = some (.int .i64 ((rd_T33 l1 t144).f0)) ∧ w'.cell? ⟨(ad147.add ((t144).toNat * 6)).block, (ad147.add ((t144).toNat * 6)).off + 1, none⟩ = some (.string ((rd_T33 l1 t144).f1)) ∧ w'.cell? ⟨(ad147.add ((t144).toNat * 6)).block, (ad147.add ((t144).toNat * 6)).off + 2, none⟩ = some (.int .i64 ((rd_T33 l1 t144).f2)) ∧ w'.cell? ⟨(ad147.add ((t144).toNat * 6)).block, (ad147.add ((t144).toNat * 6)).off + 3, none⟩ = some (.int .i64 ((rd_T33 l1 t144).f3)) ∧ w'.cell? ⟨(ad147.add ((t144).toNat * 6)).block, (ad147.add ((t144).toNat * 6)).off + 4, none⟩ = some (.slice A149_4 ((rd_T33 l1 t144).f4).length c149_4) ∧ w'.cell? ⟨(ad147.add ((t144).toNat * 6)).block, (ad147.add ((t144).toNat * 6)).off + 5, none⟩ = some (.slice A149_5 ((rd_T33 l1 t144).f5).length c149_5)) (ds := [12, 13]) #[false, false, false, false, false, false, false, false, false, false, false, false, false, false, false] (by kernel_rfl) rfl rfl ⟨hx148_0, hx148_1, hx148_2, hx148_3, hx148_4, hx148_5, ((HB.out.cell (bl9 w _ hw149_0)).trans hw149_0), ((HB.out.cell (bl9 w _ hw149_1)).trans hw149_1), ((HB.out.cell (bl9 w _ hw149_2)).trans hw149_2), ((HB.out.cell (bl9 w _ hw149_3)).trans hw149_3), ((HB.out.cell (bl9 w _ hw149_4)).trans hw149_4), ((HB.out.cell (bl9 w _ hw149_5)).trans hw149_5)⟩ (fun hh => ?_); refine with_tabW orielref12_Match.tab10 orielref12_Match.bits10 (fun HT_ HW_ => ?_)
           generalize w24.drew = w27 at HO_7 HO_8 HL142_4 HL142_5 HL143_4 HL143_5 HL146_4 HL146_5 BK138 HR142_4 HR142_5 HR143_4 HR143_5 HR146_4 HR146_5 HB HL148_4 HL148_5 HR148_4 HR148_5 HR149_4 HR149_5 hx148_0 hx148_1 hx148_2 hx148_3 hx148_4 hx148_5 hx149_0 hx149_1 hx149_2 hx149_3 hx149_4 hx149_5 hh ⊢
           refine pure_ (i := 0) (N := some 51) (v := ?_) (a' := ?_) #[true, false, false, false, false, false, false, false, false, false, false, false, false, false, false] rfl rfl (any_of HT_.out (by kernel_rfl)) (fun _ _ _ h => h) (Or.inl ⟨by rfl, ?_⟩) ?_ ?_
           rotate_left
           ·intro w'
            go_simp
            with_reducible rfl
           rotate_left
           ·simp only [Act.put, List.setIfInBounds_toArray, List.set_cons_zero, List.set_cons_succ, i64_w, i32_w]
            rfl
           refine pure_ (i := 1) (N := some 52) (v := ?_) (a' := ?_) #[true, true, false, false, false, false, false, false, false, false, false, false, false, false, false] rfl rfl (any_of HT_.out (by kernel_rfl)) (fun _ _ _ h => h) (Or.inl ⟨by rfl, ?_⟩) ?_ ?_
           rotate_left
           ·intro w'
            go_simp
            with_reducible rfl
           rotate_left
           ·simp only [Act.put, List.setIfInBounds_toArray, List.set_cons_zero, List.set_cons_succ, i64_w, i32_w]
            rfl
           refine pure_ (i := 2) (N := some 53) (v := ?_) (a' := ?_) #[true, true, true, false, false, false, false, false, false, false, false, false, false, false, false] rfl rfl (any_of HT_.out (by kernel_rfl)) (fun _ _ _ h => h) (Or.inl ⟨by rfl, ?_⟩) ?_ ?_
           rotate_left
           ·intro w'
            go_simp
            with_reducible rfl
           rotate_left
           ·simp only [Act.put, List.setIfInBounds_toArray, List.set_cons_zero, List.set_cons_succ, i64_w, i32_w]
            rfl
           refine pure_ (i := 3) (N := some 54) (v := ?_) (a' := ?_) #[true, true, true, true, false, false, false, false, false, false, false, false, false, false, false] rfl rfl (any_of HT_.out (by kernel_rfl)) (fun _ _ _ h => h) (Or.inl ⟨by rfl, ?_⟩) ?_ ?_
           rotate_left
           ·intro w'
            go_simp
            with_reducible rfl
           rotate_left
           ·simp only [Act.put, List.setIfInBounds_toArray, List.set_cons_zero, List.set_cons_succ, i64_w, i32_w]
            rfl
           refine pure_ (i := 4) (N := some 55) (v := ?_) (a' := ?_) #[true, true, true, true, true, false, false, false, false, false, false, false, false, false, false] rfl rfl (any_of HT_.out (by kernel_rfl)) (fun _ _ _ h => h) (Or.inl ⟨by rfl, ?_⟩) ?_ ?_
           rotate_left
           ·intro w'
            go_simp
            with_reducible rfl
           rotate_left
           ·simp only [Act.put, List.setIfInBounds_toArray, List.set_cons_zero, List.set_cons_succ, i64_w, i32_w]
            rfl
           refine pure_ (i := 6) (N := some 57) (v := ?_) (a' := ?_) #[true, true, true, true, true, false, true, false, false, false, false, false, false, false, false] rfl rfl (any_of HT_.out (by kernel_rfl)) (fun _ _ _ h => h) (Or.inl ⟨by rfl, ?_⟩) ?_ ?_
           rotate_left
           ·intro w'
            go_simp
            with_reducible rfl
           rotate_left
           ·simp only [Act.put, List.setIfInBounds_toArray, List.set_cons_zero, List.set_cons_succ, i64_w, i32_w]
            rfl
           refine pure_ (i := 7) (N := some 58) (v := ?_) (a' := ?_) #[true, true, true, true, true, false, true, true, false, false, false, false, false, false, false] rfl rfl (any_of HT_.out (by kernel_rfl)) (fun _ _ _ h => h) (Or.inl ⟨by rfl, ?_⟩) ?_ ?_
           rotate_left
           ·intro w'
            go_simp
            with_reducible rfl
           rotate_left
           ·simp only [Act.put, List.setIfInBounds_toArray, List.set_cons_zero, List.set_cons_succ, i64_w, i32_w]
            rfl
           refine pure_ (i := 8) (N := some 59) (v := ?_) (a' := ?_) #[true, true, true, true, true, false, true, true, true, false, false, false, false, false, false] rfl rfl (any_of HT_.out (by kernel_rfl)) (fun _ _ _ h => h) (Or.inl ⟨by rfl, ?_⟩) ?_ ?_
           rotate_left
           ·intro w'
            go_simp
            with_reducible rfl
           rotate_left
           ·simp only [Act.put, List.setIfInBounds_toArray, List.set_cons_zero, List.set_cons_succ, i64_w, i32_w]
            rfl
           refine pure_ (i := 9) (N := some 60) (v := ?_) (a' := ?_) #[true, true, true, true, true, false, true, true, true, true, false, false, false, false, false] rfl rfl (any_of HT_.out (by kernel_rfl)) (fun _ _ _ h => h) (Or.inl ⟨by rfl, ?_⟩) ?_ ?_
           rotate_left
           ·intro w'
            go_simp
            with_reducible rfl
           rotate_left
           ·simp only [Act.put, List.setIfInBounds_toArray, List.set_cons_zero, List.set_cons_succ, i64_w, i32_w]
            rfl
           refine take_ (i := 5) (N := some 56) (v := ?_) (a' := ?_) #[true, true, true, true, true, true, true, true, true, true, false, false, false, false, false] rfl rfl (take_ofW HT_.out HW_.out (by kernel_rfl)) (fun _ _ _ h => h) (Or.inl ⟨by rfl, ?_⟩) hh ?_ ?_
           rotate_left
           ·rintro w' ⟨s0, s1, s2, s3, s4, s5, s6, s7, s8, s9, s10, s11⟩
            go_simp
            with_reducible rfl
           rotate_left
           ·simp only [Act.put, List.setIfInBounds_toArray, List.set_cons_zero, List.set_cons_succ, i64_w, i32_w]
            rfl
           refine take_ (i := 10) (N := some 61) (v := ?_) (a' := ?_) #[true, true, true, true, true, true, true, true, true, true, true, false, false, false, false] rfl rfl (take_ofW HT_.out HW_.out (by kernel_rfl)) (fun _ _ _ h => h) (Or.inl ⟨by rfl, ?_⟩) hh ?_ ?_
           rotate_left
           ·rintro w' ⟨s0, s1, s2, s3, s4, s5, s6, s7, s8, s9, s10, s11⟩
            go_simp
            with_reducible rfl
           rotate_left
           ·simp only [Act.put, List.setIfInBounds_toArray, List.set_cons_zero, List.set_cons_succ, i64_w, i32_w]
            rfl
           refine pure_ (i := 11) (N := some 62) (v := ?_) (a' := ?_) #[true, true, true, true, true, true, true, true, true, true, true, true, false, false, false] rfl rfl (any_of HT_.out (by kernel_rfl)) (fun _ _ _ h => h) (Or.inl ⟨by rfl, ?_⟩) ?_ ?_
           rotate_left
           ·intro w'
            go_simp
            with_reducible rfl
           rotate_left
           ·simp only [Act.put, List.setIfInBounds_toArray, List.set_cons_zero, List.set_cons_succ, i64_w, i32_w]
            rfl
           refine last_ (i := 12) (N := some 63) #[true, true, true, true, true, true, true, true, true, true, true, true, true, false, false] rfl rfl (one_of HT_.out (by kernel_rfl)) (by decide) (fun K hK => ?_)
           refine value_ (w1 := ?_) (v := ?_) (by rfl) rfl ?_ ?_
           rotate_left 2
           ·go_simp
            constructor
            ·rfl
            ·rfl
           refine hK.out _ _ ?_
           clear hK K
           refine norm_ (a' := ?_) ?_ ?_
           rotate_left
           ·show Act.put _ (some 63) _ = _
            simp only [Act.put, List.setIfInBounds_toArray, List.set_cons_zero, List.set_cons_succ, i64_w, i32_w]
            rfl
           refine last_ (i := 13) (N := some 64) #[true, true, true, true, true, true, true, true, true, true, true, true, true, true, false] rfl rfl (one_of HT_.out (by kernel_rfl)) (by decide) (fun K hK => ?_)
           refine Kd.R_append_step k42 (w0 := w) w.heap.size (by rfl) (.tmp 51) (.tmp 63) 25 42 (.agg #[(.int .i64 0), (.int .i64 0)]) 16 rfl Try.underlying25 info42 rfl (by decide) (by omega) u7 x7_1 (⟨(rd_T33 t139 x9_1).f2, (rd_T33 l1 t144).f2⟩ : S42) [.int .i64 ((rd_T33 t139 x9_1).f2), .int .i64 ((rd_T33 l1 t144).f2)] (fun k_ => (w.heap.size ≤ k_)) (fun _ => False) rfl rfl ?aP (fun _ hk => hk.elim) ?aF ?aO ?aB ?aS ?aL ?_
           (case aP => exact k42_mkM _ _ _ (⟨(rd_T33 t139 x9_1).f2, (rd_T33 l1 t144).f2⟩ : S42))
           (case aB => exact (by repeat (with_reducible exact HB.out)))
           (case aF => exact (fun k_ hk => (Nat.le_trans (below_size (by repeat (with_reducible exact HB.out))) hk)))
           (case aO => exact (by exact HO_7.out))
           (case aS => exact (below_size (by repeat (with_reducible exact HB.out))))
           (case aL => have := LMc26.out; omega)
           intro v151 w28 ho hb hg hat
           rw [← Ny150.out] at ho
           have n0_ := am9 (Kd.N_afterv (ok := (fun k_ => (P0_ k_ ∨ w.heap.size ≤ k_) ∧ k_ ≠ g3)) (by exact Kd.N_mono HO_8.out (fun _ hk => ⟨⟨hk.1, hk.2.2⟩, hk.2.1⟩)) hg hat)
           have n1_ := am9 (blk_grown (g := g3) (o := .cells #[.int .i64 x139000_1, .string x139001_1, .int .i64 x139002_1, .int .i64 x139003_1, .slice none 0 0, .slice none 0 0] 33 (0, 0)) (by exact BK138.out) hg (Kd.R_ne HO_7.out BK138.out (by decide)))
           have n2_ := am9 (Kd.V_afterv (ok := (fun k_ => (P0_ k_ ∨ w.heap.size ≤ k_) ∧ some k_ ≠ (.slice (some ad142) t139.length co22 : Value).ownBlock ∧ k_ ≠ g3)) (by exact Kd.V_mono HL142_4.out (fun _ hk => by exact ⟨⟨hk.1, ⟨hk.2.2.1, hk.2.2.2⟩⟩, hk.2.1⟩)) hg hat)
           have n3_ := am9 (Kd.V_afterv (ok := (fun k_ => (P0_ k_ ∨ w.heap.size ≤ k_) ∧ some k_ ≠ (.slice (some ad142) t139.length co22 : Value).ownBlock ∧ k_ ≠ g3)) (by exact Kd.V_mono HL142_5.out (fun _ hk => by exact ⟨⟨hk.1, ⟨hk.2.2.1, hk.2.2.2⟩⟩, hk.2.1⟩)) hg hat)
           have n4_ := am9 (Kd.V_afterv (ok := (fun k_ => (P0_ k_ ∨ w.heap.size ≤ k_) ∧ some k_ ≠ (.slice (some ad142) t139.length co22 : Value).ownBlock ∧ k_ ≠ g3)) (by exact Kd.V_mono HL143_4.out (fun _ hk => by exact ⟨⟨hk.1, ⟨hk.2.2.1, hk.2.2.2⟩⟩, hk.2.1⟩)) hg hat)
           have n5_ := am9 (Kd.V_afterv (ok := (fun k_ => (P0_ k_ ∨ w.heap.size ≤ k_) ∧ some k_ ≠ (.slice (some ad142) t139.length co22 : Value).ownBlock ∧ k_ ≠ g3)) (by exact Kd.V_mono HL143_5.out (fun _ hk => by exact ⟨⟨hk.1, ⟨hk.2.2.1, hk.2.2.2⟩⟩, hk.2.1⟩)) hg hat)
           have n6_ := am9 (Kd.V_afterv (ok := (fun k_ => (P0_ k_ ∨ w.heap.size ≤ k_) ∧ some k_ ≠ (.slice (some ad142) t139.length co22 : Value).ownBlock ∧ k_ ≠ g3)) (by exact Kd.V_mono HL146_4.out (fun _ hk => by exact ⟨⟨hk.1.1, ⟨hk.2, hk.1.2.2⟩⟩, hk.1.2.1⟩)) hg hat)
           have n7_ := am9 (Kd.V_afterv (ok := (fun k_ => (P0_ k_ ∨ w.heap.size ≤ k_) ∧ some k_ ≠ (.slice (some ad142) t139.length co22 : Value).ownBlock ∧ k_ ≠ g3)) (by exact Kd.V_mono HL146_5.out (fun _ hk => by exact ⟨⟨hk.1.1, ⟨hk.2, hk.1.2.2⟩⟩, hk.1.2.1⟩)) hg hat)
           have n8_ := am9 (Kd.V_afterv (ok := (fun k_ => (P0_ k_ ∨ w.heap.size ≤ k_) ∧ some k_ ≠ (.slice (some ad142) t139.length co22 : Value).ownBlock ∧ k_ ≠ g3)) (by exact Kd.V_mono HL148_4.out (fun _ hk => by exact ⟨⟨hk.1.1, ⟨hk.2, hk.1.2.2⟩⟩, hk.1.2.1⟩)) hg hat)
           have n9_ := am9 (Kd.V_afterv (ok := (fun k_ => (P0_ k_ ∨ w.heap.size ≤ k_) ∧ some k_ ≠ (.slice (some ad142) t139.length co22 : Value).ownBlock ∧ k_ ≠ g3)) (by exact Kd.V_mono HL148_5.out (fun _ hk => by exact ⟨⟨hk.1.1, ⟨hk.2, hk.1.2.2⟩⟩, hk.1.2.1⟩)) hg hat)
           have n10_ := am9 (hb)
           have n11_ := am9 (ho)
           clear HO_8
           clear BK138
           clear HL142_4
           clear HL142_5
           clear HL143_4
           clear HL143_5
           clear HL146_4
           clear HL146_5
           clear HL148_4
           clear HL148_5
           clear HB
           clear HO_7
           have HO_8 := n0_
           have BK138 := n1_
           have HL142_4 := n2_
           have HL142_5 := n3_
           have HL143_4 := n4_
           have HL143_5 := n5_
           have HL146_4 := n6_
           have HL146_5 := n7_
           have HL148_4 := n8_
           have HL148_5 := n9_
           have HB := n10_
           have HO152 := n11_
           clear n0_ n1_ n2_ n3_ n4_ n5_ n6_ n7_ n8_ n9_ n10_ n11_
           clear ho hb hg hat
           refine hK.out _ _ ?_
           clear hK K
           refine norm_ (a' := ?_) ?_ ?_
           rotate_left
           ·show Act.put _ (some 64) _ = _
            simp only [Act.put, List.setIfInBounds_toArray, List.set_cons_zero, List.set_cons_succ, i64_w, i32_w]
            rfl
           refine pure_ (i := 14) (N := some 7) (v := ?_) (a' := ?_) #[true, true, true, true, true, true, true, true, true, true, true, true, true, true, true] rfl rfl (any_of HT_.out (by kernel_rfl)) (fun _ _ _ h => h) (Or.inl ⟨by rfl, ?_⟩) ?_ ?_
           rotate_left
           ·intro w'
            go_simp
            with_reducible rfl
           rotate_left
           ·simp only [Act.put, List.setIfInBounds_toArray, List.set_cons_zero, List.set_cons_succ, i64_w, i32_w]
            rfl
           refine done_ (done_of HT_.out (by kernel_rfl)) ?_
           try go_wp2
           go_meet
           case rel => exact ⟨_, (y150), H', ⟨by have := HK1.out; omega⟩, ⟨by exact HO152.out⟩, ⟨by exact Kd.N_mono HO_8.out (fun _ hk => ⟨hk.1.1, ⟨hk.2, hk.1.2⟩⟩)⟩, ⟨by exact BK138.out⟩, ⟨by repeat (with_reducible exact HB.out)⟩⟩
          ·rw [if_neg c26] at H
           exact absurd H (by simp)
        case rest =>
         clear HC21
         clear hx146_0 hx146_1 hx146_2 hx146_3 hx146_4 hx146_5 hx147_0 hx147_1 hx147_2 hx147_3 hx147_4 hx147_5 p146 p147 q146 q147
         obtain ⟨kq, x7_20, HA, HJ20, HO_7, HO_8, BK138, HB⟩ := hcut
         cases kq with
         | zero => exact absurd HA.out (by simp [orielref12_Match.j1])
         | succ kj20 =>
          have H := HA.out
          clear HA
          simp only [orielref12_Match.j1] at H
          by_cases c29 : 0 ≤ x9_1
          ·rw [if_pos c29] at H
           have c29b0 : decide (0 ≤ x9_1) = true := decide_eq_true c29
           clear c29
           by_cases c30 : x9_1 < (t139.length : Int)
           ·rw [if_pos c30] at H
            have c30b0 : decide (x9_1 < (t139.length : Int)) = true := decide_eq_true c30
            clear c30
            by_cases c31 : ((rd_T33 t139 x9_1).f0) = 4
            ·rw [if_pos c31] at H
             have c31b0 : (((rd_T33 t139 x9_1).f0) == 4) = true := beq_iff_eq.mpr c31
             have c31b1 : (((rd_T33 t139 x9_1).f0) != 4) = false := bne_eq_false_iff_eq.mpr c31
             clear c31
             by_cases c32 : 0 ≤ t144
             ·rw [if_pos c32] at H
              have c32b0 : decide (0 ≤ t144) = true := decide_eq_true c32
              clear c32
              by_cases c33 : t144 < (l1.length : Int)
              ·rw [if_pos c33] at H
               have c33b0 : decide (t144 < (l1.length : Int)) = true := decide_eq_true c33
               clear c33
               replace H := Option.bind_eq_some_iff.mp H
               obtain ⟨⟨t156, t159, t160, t161, t162, t163, t166, t169⟩, A340, H⟩ := H
               replace H : (if t169 = true then (if x7_20.length + t156.length < 8796093022208 then (orielref12_Match.l0 kj20 l1 (x7_20 ++ t156) t139 (wrap64 (x9_1 + 1))) else (none)) else (some (([] : List (S42)), t159, t160, t161, t162, t163, t166, false))) = some (r1, r2, r3, r4, r5, r6, r7, r8) := H
               have A34 := am9 A340
               clear A340
               by_cases c35 : t169 = true
               ·subst c35
                have H1 : (if x7_20.length + t156.length < 8796093022208 then (orielref12_Match.l0 kj20 l1 (x7_20 ++ t156) t139 (wrap64 (x9_1 + 1))) else (none)) = some (r1, r2, r3, r4, r5, r6, r7, r8) := by rw [if_pos rfl] at H; exact H
                clear H
                have H := H1
                clear H1
                by_cases c36 : x7_20.length + t156.length < 8796093022208
                ·rw [if_pos c36] at H
                 have LMc36 := am9 c36
                 clear c36
                 obtain ⟨y171, hy171⟩ : ∃ y_ : List (S42), y_ = (x7_20 ++ t156) := ⟨_, rfl⟩
                 replace H : (orielref12_Match.l0 kj20 l1 y171 t139 (wrap64 (x9_1 + 1))) = some (r1, r2, r3, r4, r5, r6, r7, r8) := by (rw [hy171]; with_reducible exact H)
                 have Ny171 := am9 hy171
                 clear hy171
                 have H' := am9 H
                 clear H
                 have p153 : 0 ≤ (x9_1 : Int) := of_decide_eq_true (by with_reducible assumption)
                 have q153 : x9_1 < (t139.length : Int) := of_decide_eq_true (by with_reducible assumption)
                 obtain ⟨ad153, A153_4, c153_4, A153_5, c153_5, e153, hx153_0, hx153_1, hx153_2, hx153_3, hx153_4, hx153_5, hl153_4, hi153_4, hl153_5, hi153_5⟩ := at_T33 (Kd.N_reads' HO_8.out).2.2 x9_1 p153 q153
                 obtain rfl : ad142 = ad153 := (by injection e153)
                 obtain ⟨ce153, hce153, hMe153, hcc153⟩ := Kd.N_get HO_8.out z33 x9_1 p153 (by exact q153)
                 obtain ⟨ua153_4, uc153_4, ua153_5, uc153_5, rfl, ul153_4, ge153_4, ul153_5, ge153_5⟩ := k33_openF hMe153
                 have hv153_4 := hcc153 4 _ rfl
                 rw [add_field _ _ 4 (by omega)] at hv153_4
                 replace hv153_4 := Option.some.inj (hv153_4.symm.trans hx153_4)
                 injection hv153_4 with hva_ hvn_ hvc_
                 rw [hva_] at ge153_4
                 rw [hvc_] at ul153_4
                 have HL153_4 := am9 (show Kd.V k33 33 _ w.heap.size _ _ ((rd_T33 t139 x9_1).f4) from Kd.V_mk ul153_4 ge153_4)
                 clear hva_ hvn_ hvc_ ge153_4 ul153_4
                 have hv153_5 := hcc153 5 _ rfl
                 rw [add_field _ _ 5 (by omega)] at hv153_5
                 replace hv153_5 := Option.some.inj (hv153_5.symm.trans hx153_5)
                 injection hv153_5 with hva_ hvn_ hvc_
                 rw [hva_] at ge153_5
                 rw [hvc_] at ul153_5
                 have HL153_5 := am9 (show Kd.V k33 33 _ w.heap.size _ _ ((rd_T33 t139 x9_1).f5) from Kd.V_mk ul153_5 ge153_5)
                 clear hva_ hvn_ hvc_ ge153_5 ul153_5
                 clear hcc153 hce153
                 have HR153_4 := am9 hi153_4
                 have HC153_4 := am9 hl153_4
                 clear hi153_4 hl153_4
                 have HR153_5 := am9 hi153_5
                 have HC153_5 := am9 hl153_5
                 clear hi153_5 hl153_5
                 replace p153 := eq_true p153
                 replace q153 := eq_true q153
                 try go_wp2
                 have n0_ := am9 (Kd.R_drew HO_7.out)
                 have n1_ := am9 (Kd.N_drew HO_8.out)
                 have n2_ := am9 (Kd.V_drew HL153_4.out)
                 have n3_ := am9 (Kd.V_drew HL153_5.out)
                 have n4_ := am9 (blk_drew BK138.out)
                 have n5_ := am9 (Kd.C_drew HR153_4.out)
                 have n6_ := am9 (Kd.C_drew HR153_5.out)
                 have n7_ := am9 (below_drew1 HB.out)
                 clear HO_7
                 clear HO_8
                 clear HL153_4
                 clear HL153_5
                 clear BK138
                 clear HR153_4
                 clear HR153_5
                 clear HB
                 have HO_7 := n0_
                 have HO_8 := n1_
                 have HL153_4 := n2_
                 have HL153_5 := n3_
                 have BK138 := n4_
                 have HR153_4 := n5_
                 have HR153_5 := n6_
                 have HB := n7_
                 clear n0_ n1_ n2_ n3_ n4_ n5_ n6_ n7_
                 have p154 : 0 ≤ (x9_1 : Int) := of_decide_eq_true (by with_reducible assumption)
                 have q154 : x9_1 < (t139.length : Int) := of_decide_eq_true (by with_reducible assumption)
                 obtain ⟨ad154, A154_4, c154_4, A154_5, c154_5, e154, hx154_0, hx154_1, hx154_2, hx154_3, hx154_4, hx154_5, hl154_4, hi154_4, hl154_5, hi154_5⟩ := at_T33 (Kd.N_reads' HO_8.out).2.2 x9_1 p154 q154
                 obtain rfl : ad142 = ad154 := (by injection e154)
                 obtain ⟨ce154, hce154, hMe154, hcc154⟩ := Kd.N_get HO_8.out z33 x9_1 p154 (by exact q154)
                 obtain ⟨ua154_4, uc154_4, ua154_5, uc154_5, rfl, ul154_4, ge154_4, ul154_5, ge154_5⟩ := k33_openF hMe154
                 have hv154_4 := hcc154 4 _ rfl
                 rw [add_field _ _ 4 (by omega)] at hv154_4
                 replace hv154_4 := Option.some.inj (hv154_4.symm.trans hx154_4)
                 injection hv154_4 with hva_ hvn_ hvc_
                 rw [hva_] at ge154_4
                 rw [hvc_] at ul154_4
                 have HL154_4 := am9 (show Kd.V k33 33 _ w.heap.size _ _ ((rd_T33 t139 x9_1).f4) from Kd.V_mk ul154_4 ge154_4)
                 clear hva_ hvn_ hvc_ ge154_4 ul154_4
                 have hv154_5 := hcc154 5 _ rfl
                 rw [add_field _ _ 5 (by omega)] at hv154_5
                 replace hv154_5 := Option.some.inj (hv154_5.symm.trans hx154_5)
                 injection hv154_5 with hva_ hvn_ hvc_
                 rw [hva_] at ge154_5
                 rw [hvc_] at ul154_5
                 have HL154_5 := am9 (show Kd.V k33 33 _ w.heap.size _ _ ((rd_T33 t139 x9_1).f5) from Kd.V_mk ul154_5 ge154_5)
                 clear hva_ hvn_ hvc_ ge154_5 ul154_5
                 clear hcc154 hce154
                 have HR154_4 := am9 hi154_4
                 have HC154_4 := am9 hl154_4
                 clear hi154_4 hl154_4
                 have HR154_5 := am9 hi154_5
                 have HC154_5 := am9 hl154_5
                 clear hi154_5 hl154_5
                 replace p154 := eq_true p154
                 replace q154 := eq_true q154
                 have p155 : 0 ≤ (t144 : Int) := of_decide_eq_true (by with_reducible assumption)
                 have q155 : t144 < (l1.length : Int) := of_decide_eq_true (by with_reducible assumption)
                 obtain ⟨ad155, A155_4, c155_4, A155_5, c155_5, e155, hx155_0, hx155_1, hx155_2, hx155_3, hx155_4, hx155_5, hl155_4, hi155_4, hl155_5, hi155_5⟩ := at_T33 HR1.out t144 p155 q155
                 have hw155_5 := hx155_5
                 have hw155_4 := hx155_4
                 have hw155_3 := hx155_3
                 have hw155_2 := hx155_2
                 have hw155_1 := hx155_1
                 have hw155_0 := hx155_0
                 obtain rfl : ad147 = ad155 := (by injection e155)
                 replace hx155_0 := (HB.out.cell (bl9 w _ hx155_0)).trans hx155_0
                 replace hx155_1 := (HB.out.cell (bl9 w _ hx155_1)).trans hx155_1
                 replace hx155_2 := (HB.out.cell (bl9 w _ hx155_2)).trans hx155_2
                 replace hx155_3 := (HB.out.cell (bl9 w _ hx155_3)).trans hx155_3
                 replace hx155_4 := (HB.out.cell (bl9 w _ hx155_4)).trans hx155_4
                 replace hx155_5 := (HB.out.cell (bl9 w _ hx155_5)).trans hx155_5
                 have HR155_4 := am9 hi155_4
                 have HC155_4 := am9 hl155_4
                 clear hi155_4 hl155_4
                 have HR155_5 := am9 hi155_5
                 have HC155_5 := am9 hl155_5
                 clear hi155_5 hl155_5
                 replace p155 := eq_true p155
                 replace q155 := eq_true q155
                 refine start_ (n := 19) (S := fun w' => w'.cell? (ad142.add ((x9_1).toNat * 6)) = some (.int .i64 ((rd_T33 t139 x9_1).f0)) ∧ w'.cell? ⟨(ad142.add ((x9_1).toNat * 6)).block, (ad142.add ((x9_1).toNat * 6)).off + 1, none⟩ = some (.string ((rd_T33 t139 x9_1).f1)) ∧ w'.cell? ⟨(ad142.add ((x9_1).toNat * 6)).block, (ad142.add ((x9_1).toNat * 6)).off + 2, none⟩ = some (.int .i64 ((rd_T33 t139 x9_1).f2)) ∧ w'.cell? ⟨(ad142.add ((x9_1).toNat * 6)).block, (ad142.add ((x9_1).toNat * 6)).off + 3, none⟩ = some (.int .i64 ((rd_T33 t139 x9_1).f3)) ∧ w'.cell? ⟨(ad142.add ((x9_1).toNat * 6)).block, (ad142.add ((x9_1).toNat * 6)).off + 4, none⟩ = some (.slice A154_4 ((rd_T33 t139 x9_1).f4).length c154_4) ∧ w'.cell? ⟨(ad142.add ((x9_1).toNat * 6)).block, (ad142.add ((x9_1).toNat * 6)).off + 5, none⟩ = some (.slice A154_5 ((rd_T33 t139 x9_1).f5).length c154_5) ∧ w'.cell? (ad147.add ((t144).toNat * 6)) = some (.int .i64 ((rd_T33 l1 t144).f0)) ∧ w'.cell? ⟨(ad147.add ((t144).toNat * 6)).block, (ad147.add ((t144).toNat * 6)).off + 1, none⟩ = some (.string ((rd_T33 l1 t144).f1)) ∧ w'.cell? ⟨(ad147.add ((t144).toNat * 6)).block, (ad147.add ((t144).toNat * 6)).off + 2, none⟩ = some (.int .i64 ((rd_T33 l1 t144).f2)) ∧ w'.cell? ⟨(ad147.add ((t144).toNat * 6)).block, (ad147.add ((t144).toNat * 6)).off + 3, none⟩ = some (.int .i64 ((rd_T33 l1 t144).f3)) ∧ w'.cell? ⟨(ad147.add ((t144).toNat * 6)).block, (ad147.add ((t144).toNat * 6)).off + 4, none⟩ = some (.slice A155_4 ((rd_T33 l1 t144).f4).length c155_4) ∧ w'.cell? ⟨(ad147.add ((t144).toNat * 6)).block, (ad147.add ((t144).toNat * 6)).off + 5, none⟩ = some (.slice A155_5 ((rd_T33 l1 t144).f5).length c155_5)) (ds := []) #[false, false, false, false, false, false, false, false, false, false, false, false, false, false, false, false, false, false, false] (by kernel_rfl) rfl rfl ⟨hx154_0, hx154_1, hx154_2, hx154_3, hx154_4, hx154_5, ((HB.out.cell (bl9 w _ hw155_0)).trans hw155_0), ((HB.out.cell (bl9 w _ hw155_1)).trans hw155_1), ((HB.out.cell (bl9 w _ hw155_2)).trans hw155_2), ((HB.out.cell (bl9 w _ hw155_3)).trans hw155_3), ((HB.out.cell (bl9 w _ hw155_4)).trans hw155_4), ((HB.out.cell (bl9 w _ hw155_5)).trans hw155_5)⟩ (fun hh => ?_); refine with_tabW orielref12_Match.tab12 orielref12_Match.bits12 (fun HT_ HW_ => ?_)
                 generalize wc.drew = w37 at HO_7 HO_8 HL153_4 HL153_5 BK138 HR153_4 HR153_5 HB HL154_4 HL154_5 HR154_4 HR154_5 HR155_4 HR155_5 hx154_0 hx154_1 hx154_2 hx154_3 hx154_4 hx154_5 hx155_0 hx155_1 hx155_2 hx155_3 hx155_4 hx155_5 hh ⊢
                 refine pure_ (i := 0) (N := some 72) (v := ?_) (a' := ?_) #[true, false, false, false, false, false, false, false, false, false, false, false, false, false, false, false, false, false, false] rfl rfl (any_of HT_.out (by kernel_rfl)) (fun _ _ _ h => h) (Or.inl ⟨by rfl, ?_⟩) ?_ ?_
                 rotate_left
                 ·intro w'
                  go_simp
                  with_reducible rfl
                 rotate_left
                 ·simp only [Act.put, List.setIfInBounds_toArray, List.set_cons_zero, List.set_cons_succ, i64_w, i32_w]
                  rfl
                 refine pure_ (i := 1) (N := some 73) (v := ?_) (a' := ?_) #[true, true, false, false, false, false, false, false, false, false, false, false, false, false, false, false, false, false, false] rfl rfl (any_of HT_.out (by kernel_rfl)) (fun _ _ _ h => h) (Or.inl ⟨by rfl, ?_⟩) ?_ ?_
                 rotate_left
                 ·intro w'
                  go_simp
                  with_reducible rfl
                 rotate_left
                 ·simp only [Act.put, List.setIfInBounds_toArray, List.set_cons_zero, List.set_cons_succ, i64_w, i32_w]
                  rfl
                 refine pure_ (i := 2) (N := some 74) (v := ?_) (a' := ?_) #[true, true, true, false, false, false, false, false, false, false, false, false, false, false, false, false, false, false, false] rfl rfl (any_of HT_.out (by kernel_rfl)) (fun _ _ _ h => h) (Or.inl ⟨by rfl, ?_⟩) ?_ ?_
                 rotate_left
                 ·intro w'
                  go_simp
                  with_reducible rfl
                 rotate_left
                 ·simp only [Act.put, List.setIfInBounds_toArray, List.set_cons_zero, List.set_cons_succ, i64_w, i32_w]
                  rfl
                 refine pure_ (i := 3) (N := some 75) (v := ?_) (a' := ?_) #[true, true, true, true, false, false, false, false, false, false, false, false, false, false, false, false, false, false, false] rfl rfl (any_of HT_.out (by kernel_rfl)) (fun _ _ _ h => h) (Or.inl ⟨by rfl, ?_⟩) ?_ ?_
                 rotate_left
                 ·intro w'
                  go_simp
                  with_reducible rfl
                 rotate_left
                 ·simp only [Act.put, List.setIfInBounds_toArray, List.set_cons_zero, List.set_cons_succ, i64_w, i32_w]
                  rfl
                 refine pure_ (i := 5) (N := some 77) (v := ?_) (a' := ?_) #[true, true, true, true, false, true, false, false, false, false, false, false, false, false, false, false, false, false, false] rfl rfl (any_of HT_.out (by kernel_rfl)) (fun _ _ _ h => h) (Or.inl ⟨by rfl, ?_⟩) ?_ ?_
                 rotate_left
                 ·intro w'
                  go_simp
                  with_reducible rfl
                 rotate_left
                 ·simp only [Act.put, List.setIfInBounds_toArray, List.set_cons_zero, List.set_cons_succ, i64_w, i32_w]
                  rfl
                 refine pure_ (i := 6) (N := some 78) (v := ?_) (a' := ?_) #[true, true, true, true, false, true, true, false, false, false, false, false, false, false, false, false, false, false, false] rfl rfl (any_of HT_.out (by kernel_rfl)) (fun _ _ _ h => h) (Or.inl ⟨by rfl, ?_⟩) ?_ ?_
                 rotate_left
                 ·intro w'
                  go_simp
                  with_reducible rfl
                 rotate_left
                 ·simp only [Act.put, List.setIfInBounds_toArray, List.set_cons_zero, List.set_cons_succ, i64_w, i32_w]
                  rfl
                 refine pure_ (i := 7) (N := some 79) (v := ?_) (a' := ?_) #[true, true, true, true, false, true, true, true, false, false, false, false, false, false, false, false, false, false, false] rfl rfl (any_of HT_.out (by kernel_rfl)) (fun _ _ _ h => h) (Or.inl ⟨by rfl, ?_⟩) ?_ ?_
                 rotate_left
                 ·intro w'
                  go_simp
                  with_reducible rfl
                 rotate_left
                 ·simp only [Act.put, List.setIfInBounds_toArray, List.set_cons_zero, List.set_cons_succ, i64_w, i32_w]
                  rfl
                 refine pure_ (i := 8) (N := some 80) (v := ?_) (a' := ?_) #[true, true, true, true, false, true, true, true, true, false, false, false, false, false, false, false, false, false, false] rfl rfl (any_of HT_.out (by kernel_rfl)) (fun _ _ _ h => h) (Or.inl ⟨by rfl, ?_⟩) ?_ ?_
                 rotate_left
                 ·intro w'
                  go_simp
                  with_reducible rfl
                 rotate_left
                 ·simp only [Act.put, List.setIfInBounds_toArray, List.set_cons_zero, List.set_cons_succ, i64_w, i32_w]
                  rfl
                 refine take_ (i := 4) (N := some 76) (v := ?_) (a' := ?_) #[true, true, true, true, true, true, true, true, true, false, false, false, false, false, false, false, false, false, false] rfl rfl (take_ofW HT_.out HW_.out (by kernel_rfl)) (fun _ _ _ h => h) (Or.inl ⟨by rfl, ?_⟩) hh ?_ ?_
                 rotate_left
                 ·rintro w' ⟨s0, s1, s2, s3, s4, s5, s6, s7, s8, s9, s10, s11⟩
                  go_simp
                  with_reducible rfl
                 rotate_left
                 ·simp only [Act.put, List.setIfInBounds_toArray, List.set_cons_zero, List.set_cons_succ, i64_w, i32_w]
                  rfl
                 refine take_ (i := 9) (N := some 81) (v := ?_) (a' := ?_) #[true, true, true, true, true, true, true, true, true, true, false, false, false, false, false, false, false, false, false] rfl rfl (take_ofW HT_.out HW_.out (by kernel_rfl)) (fun _ _ _ h => h) (Or.inl ⟨by rfl, ?_⟩) hh ?_ ?_
                 rotate_left
                 ·rintro w' ⟨s0, s1, s2, s3, s4, s5, s6, s7, s8, s9, s10, s11⟩
                  go_simp
                  with_reducible rfl
                 rotate_left
                 ·simp only [Act.put, List.setIfInBounds_toArray, List.set_cons_zero, List.set_cons_succ, i64_w, i32_w]
                  rfl
                 refine join_ (σ := Value × Value × Value × Nat) 3 #[true, true, true, true, true, true, true, true, true, true, true, true, true, true, true, true, false, false, false] (fun s_ => [(82, .tuple #[s_.1, .agg #[.int .i64 t159, .string t160, .int .i64 t161, .int .i64 t162, s_.2.1, s_.2.2.1], .bool true]), (12, .pointer (some ⟨s_.2.2.2, 0, none⟩)), (71, .tuple #[s_.1, .agg #[.int .i64 t159, .string t160, .int .i64 t161, .int .i64 t162, s_.2.1, s_.2.2.1], .bool true]), (83, s_.1), (84, .agg #[.int .i64 t159, .string t160, .int .i64 t161, .int .i64 t162, s_.2.1, s_.2.2.1]), (85, .bool true)]) (fun s_ w' => (w'.cell? (ad142.add ((x9_1).toNat * 6)) = some (.int .i64 ((rd_T33 t139 x9_1).f0)) ∧ w'.cell? ⟨(ad142.add ((x9_1).toNat * 6)).block, (ad142.add ((x9_1).toNat * 6)).off + 1, none⟩ = some (.string ((rd_T33 t139 x9_1).f1)) ∧ w'.cell? ⟨(ad142.add ((x9_1).toNat * 6)).block, (ad142.add ((x9_1).toNat * 6)).off + 2, none⟩ = some (.int .i64 ((rd_T33 t139 x9_1).f2)) ∧ w'.cell? ⟨(ad142.add ((x9_1).toNat * 6)).block, (ad142.add ((x9_1).toNat * 6)).off + 3, none⟩ = some (.int .i64 ((rd_T33 t139 x9_1).f3)) ∧ w'.cell? ⟨(ad142.add ((x9_1).toNat * 6)).block, (ad142.add ((x9_1).toNat * 6)).off + 4, none⟩ = some (.slice A154_4 ((rd_T33 t139 x9_1).f4).length c154_4) ∧ w'.cell? ⟨(ad142.add ((x9_1).toNat * 6)).block, (ad142.add ((x9_1).toNat * 6)).off + 5, none⟩ = some (.slice A154_5 ((rd_T33 t139 x9_1).f5).length c154_5) ∧ w'.cell? (ad147.add ((t144).toNat * 6)) = some (.int .i64 ((rd_T33 l1 t144).f0)) ∧ w'.cell? ⟨(ad147.add ((t144).toNat * 6)).block, (ad147.add ((t144).toNat * 6)).off + 1, none⟩ = some (.string ((rd_T33 l1 t144).f1)) ∧ w'.cell? ⟨(ad147.add ((t144).toNat * 6)).block, (ad147.add ((t144).toNat * 6)).off + 2, none⟩ = some (.int .i64 ((rd_T33 l1 t144).f2)) ∧ w'.cell? ⟨(ad147.add ((t144).toNat * 6)).block, (ad147.add ((t144).toNat * 6)).off + 3, none⟩ = some (.int .i64 ((rd_T33 l1 t144).f3)) ∧ w'.cell? ⟨(ad147.add ((t144).toNat * 6)).block, (ad147.add ((t144).toNat * 6)).off + 4, none⟩ = some (.slice A155_4 ((rd_T33 l1 t144).f4).length c155_4) ∧ w'.cell? ⟨(ad147.add ((t144).toNat * 6)).block, (ad147.add ((t144).toNat * 6)).off + 5, none⟩ = some (.slice A155_5 ((rd_T33 l1 t144).f5).length c155_5)) ∧ (Kd.V k33 33 w' w.heap.size (fun k_ => (P0_ k_ ∨ w.heap.size ≤ k_) ∧ some k_ ≠ (s_.1 : Value).ownBlock ∧ some k_ ≠ (u7 : Value).ownBlock ∧ some k_ ≠ (.slice (some ad142) t139.length co22 : Value).ownBlock ∧ k_ ≠ g3 ∧ k_ ≠ s_.2.2.2) (.slice A153_4 ((rd_T33 t139 x9_1).f4).length c153_4) ((rd_T33 t139 x9_1).f4)) ∧ (Kd.V k33 33 w' w.heap.size (fun k_ => (P0_ k_ ∨ w.heap.size ≤ k_) ∧ some k_ ≠ (s_.1 : Value).ownBlock ∧ some k_ ≠ (u7 : Value).ownBlock ∧ some k_ ≠ (.slice (some ad142) t139.length co22 : Value).ownBlock ∧ k_ ≠ g3 ∧ k_ ≠ s_.2.2.2) (.slice A153_5 ((rd_T33 t139 x9_1).f5).length c153_5) ((rd_T33 t139 x9_1).f5)) ∧ (Kd.V k33 33 w' w.heap.size (fun k_ => (P0_ k_ ∨ w.heap.size ≤ k_) ∧ some k_ ≠ (s_.1 : Value).ownBlock ∧ some k_ ≠ (u7 : Value).ownBlock ∧ some k_ ≠ (.slice (some ad142) t139.length co22 : Value).ownBlock ∧ k_ ≠ g3 ∧ k_ ≠ s_.2.2.2) (.slice A154_4 ((rd_T33 t139 x9_1).f4).length c154_4) ((rd_T33 t139 x9_1).f4)) ∧ (Kd.V k33 33 w' w.heap.size (fun k_ => (P0_ k_ ∨ w.heap.size ≤ k_) ∧ some k_ ≠ (s_.1 : Value).ownBlock ∧ some k_ ≠ (u7 : Value).ownBlock ∧ some k_ ≠ (.slice (some ad142) t139.length co22 : Value).ownBlock ∧ k_ ≠ g3 ∧ k_ ≠ s_.2.2.2) (.slice A154_5 ((rd_T33 t139 x9_1).f5).length c154_5) ((rd_T33 t139 x9_1).f5)) ∧ (Kd.R k42 42 w' w.heap.size (fun k_ => (w.heap.size ≤ k_) ∧ some k_ ≠ (u7 : Value).ownBlock) s_.1 t156) ∧ (Kd.V k33 33 w' w.heap.size (fun k_ => (P0_ k_ ∨ w.heap.size ≤ k_) ∧ some k_ ≠ (s_.1 : Value).ownBlock ∧ some k_ ≠ (u7 : Value).ownBlock ∧ some k_ ≠ (.slice (some ad142) t139.length co22 : Value).ownBlock ∧ k_ ≠ g3 ∧ k_ ≠ s_.2.2.2) s_.2.1 t163) ∧ (Kd.V k33 33 w' w.heap.size (fun k_ => (P0_ k_ ∨ w.heap.size ≤ k_) ∧ some k_ ≠ (s_.1 : Value).ownBlock ∧ some k_ ≠ (u7 : Value).ownBlock ∧ some k_ ≠ (.slice (some ad142) t139.length co22 : Value).ownBlock ∧ k_ ≠ g3 ∧ k_ ≠ s_.2.2.2) s_.2.2.1 t166) ∧ (Kd.R k42 42 w' w.heap.size (fun k_ => (w.heap.size ≤ k_) ∧ some k_ ≠ (s_.1 : Value).ownBlock) u7 x7_20) ∧ (Kd.N k33 33 w' w.heap.size (fun k_ => (P0_ k_ ∨ w.heap.size ≤ k_) ∧ some k_ ≠ (s_.1 : Value).ownBlock ∧ some k_ ≠ (u7 : Value).ownBlock ∧ k_ ≠ g3 ∧ k_ ≠ s_.2.2.2) (.slice (some ad142) t139.length co22) t139) ∧ (w'.heap[g3]? = some (.cells #[.int .i64 x139000_1, .string x139001_1, .int .i64 x139002_1, .int .i64 x139003_1, .slice none 0 0, .slice none 0 0] 33 (0, 0))) ∧ (w'.heap[s_.2.2.2]? = some (.cells #[.int .i64 0, .string (⟨#[]⟩ : ByteArray), .int .i64 0, .int .i64 0, .slice none 0 0, .slice none 0 0] 33 (0, 0))) ∧ (w.heap.size ≤ s_.2.2.2) ∧ (w.heap.size ≤ s_.2.2.2) ∧ (g3 ≠ s_.2.2.2) ∧ (s_.2.2.2 ≠ g3) ∧ (Below w.heap.size w w')) ?_ ?_
                 rotate_left
                 ·intro hCont
                  refine two_ (i := 10) (j := 15) (Ni := some 82) (Nj := some 12) #[true, true, true, true, true, true, true, true, true, true, true, false, false, false, false, false, false, false, false] #[true, true, true, true, true, true, true, true, true, true, false, false, false, false, false, true, false, false, false] rfl rfl rfl rfl (two_of HT_.out (by kernel_rfl)) (by decide) (by decide) (fun K hK => ?_) (fun K hK => ?_)
                  ·skip
                   refine goes_ Try.func9 (by kernel_rfl) rfl #[.slice A154_4 ((rd_T33 t139 x9_1).f4).length c154_4, .slice A155_4 ((rd_T33 l1 t144).f4).length c155_4] (by rfl) rfl rfl (by (try simp only [List.map_toArray, List.map_cons, List.map_nil]); rfl) ?_
                   with_reducible refine (ih kj20 (by have := HK1.out; have := HJ20.out; omega) (fun k_ => (((P0_ k_ ∨ w.heap.size ≤ k_) ∧ (some k_ ≠ (u7 : Value).ownBlock ∧ k_ ≠ g3)) ∧ some k_ ≠ (.slice (some ad142) t139.length co22 : Value).ownBlock)) _ _ ((rd_T33 t139 x9_1).f4) _ _ ((rd_T33 l1 t144).f4) t156 t159 t160 t161 t162 t163 t166 true _ ?side1 ?side2 ?side3 A34.out).mono ?_
                   (case side1 => exact HL154_4.out)
                   (case side2 => repeat (exact (Kd.C_below HR155_4.out HB.out)))
                   (case side3 => exact HC155_4.out)
                   rintro e w38 ⟨v157, v164, v167, rfl, ho0, ho1, ho2, hb⟩
                   have HS0_ := (hb.cell (bl9 _ _ (hh.1))).trans (hh.1)
                   have HS1_ := (hb.cell (bl9 _ _ (hh.2.1))).trans (hh.2.1)
                   have HS2_ := (hb.cell (bl9 _ _ (hh.2.2.1))).trans (hh.2.2.1)
                   have HS3_ := (hb.cell (bl9 _ _ (hh.2.2.2.1))).trans (hh.2.2.2.1)
                   have HS4_ := (hb.cell (bl9 _ _ (hh.2.2.2.2.1))).trans (hh.2.2.2.2.1)
                   have HS5_ := (hb.cell (bl9 _ _ (hh.2.2.2.2.2.1))).trans (hh.2.2.2.2.2.1)
                   refine ⟨_, rfl, ?_⟩
                   have n0_ := am9 (Kd.R_elder' (by exact HO_7.out) (Kd.R_base ho0) hb)
                   have n1_ := am9 (Kd.N_elder' (by exact HO_8.out) (Kd.R_base ho0) hb)
                   have n2_ := am9 (Kd.V_elder' (by exact HL153_4.out) (Kd.R_base ho0) hb)
                   have n3_ := am9 (Kd.V_elder' (by exact HL153_5.out) (Kd.R_base ho0) hb)
                   have n4_ := am9 (Kd.V_elder' (by exact HL154_4.out) (Kd.R_base ho0) hb)
                   have n5_ := am9 (Kd.V_elder' (by exact HL154_5.out) (Kd.R_base ho0) hb)
                   have n6_ := am9 (Kd.R_lower (Kd.R_new' (Kd.R_newM (M := fun k_ => (w.heap.size ≤ k_)) (Kd.R_mono (ok' := fun k_ => True) ho0 (fun _ hk_ => trivial)) (below_size (by repeat (with_reducible exact HB.out))) (fun k_ h_ => h_)) (Kd.R_lt (by exact HO_7.out))) (below_size (by repeat (with_reducible exact HB.out))))
                   have n7_ := am9 (Kd.V_lower (Kd.V_mono (ok' := fun k_ => (P0_ k_ ∨ w.heap.size ≤ k_) ∧ some k_ ≠ (v157 : Value).ownBlock ∧ some k_ ≠ (u7 : Value).ownBlock ∧ some k_ ≠ (.slice (some ad142) t139.length co22 : Value).ownBlock ∧ k_ ≠ g3) ho1 (fun k_ hk_ => ⟨Or.elim hk_.1 (fun hs_ => hs_.1.1) (fun hn_ => (.inr (Nat.le_trans (below_size (by repeat (with_reducible exact HB.out))) hn_))), hk_.2, Or.elim hk_.1 (fun hs_ => hs_.1.2.1) (fun hn_ => (Kd.fresh' (Kd.R_lt (by exact HO_7.out)) k_ hn_)), Or.elim hk_.1 (fun hs_ => hs_.2) (fun hn_ => (Kd.fresh' (Kd.N_lt (by exact HO_8.out)) k_ hn_)), Or.elim hk_.1 (fun hs_ => hs_.1.2.2) (fun hn_ => (Kd.freshB (g := g3) (o := .cells #[.int .i64 x139000_1, .string x139001_1, .int .i64 x139002_1, .int .i64 x139003_1, .slice none 0 0, .slice none 0 0] 33 (0, 0)) (by exact BK138.out) k_ hn_))⟩)) (below_size (by repeat (with_reducible exact HB.out))))
                   have n8_ := am9 (Kd.V_lower (Kd.V_mono (ok' := fun k_ => (P0_ k_ ∨ w.heap.size ≤ k_) ∧ some k_ ≠ (v157 : Value).ownBlock ∧ some k_ ≠ (u7 : Value).ownBlock ∧ some k_ ≠ (.slice (some ad142) t139.length co22 : Value).ownBlock ∧ k_ ≠ g3) ho2 (fun k_ hk_ => ⟨Or.elim hk_.1 (fun hs_ => hs_.1.1) (fun hn_ => (.inr (Nat.le_trans (below_size (by repeat (with_reducible exact HB.out))) hn_))), hk_.2, Or.elim hk_.1 (fun hs_ => hs_.1.2.1) (fun hn_ => (Kd.fresh' (Kd.R_lt (by exact HO_7.out)) k_ hn_)), Or.elim hk_.1 (fun hs_ => hs_.2) (fun hn_ => (Kd.fresh' (Kd.N_lt (by exact HO_8.out)) k_ hn_)), Or.elim hk_.1 (fun hs_ => hs_.1.2.2) (fun hn_ => (Kd.freshB (g := g3) (o := .cells #[.int .i64 x139000_1, .string x139001_1, .int .i64 x139002_1, .int .i64 x139003_1, .slice none 0 0, .slice none 0 0] 33 (0, 0)) (by exact BK138.out) k_ hn_))⟩)) (below_size (by repeat (with_reducible exact HB.out))))
                   have n9_ := am9 (blk_below (g := g3) (o := .cells #[.int .i64 x139000_1, .string x139001_1, .int .i64 x139002_1, .int .i64 x139003_1, .slice none 0 0, .slice none 0 0] 33 (0, 0)) (by exact BK138.out) hb)
                   have n10_ := am9 (Kd.C_below (by repeat (with_reducible exact HR153_4.out)) hb)
                   have n11_ := am9 (Kd.C_below (by repeat (with_reducible exact HR153_5.out)) hb)
                   have n12_ := am9 (Kd.C_below (by repeat (with_reducible exact HR154_4.out)) hb)
                   have n13_ := am9 (Kd.C_below (by repeat (with_reducible exact HR154_5.out)) hb)
                   have n14_ := am9 (below_step (by repeat (with_reducible exact HB.out)) hb)
                   clear HO_7
                   clear HO_8
                   clear HL153_4
                   clear HL153_5
                   clear HL154_4
                   clear HL154_5
                   clear BK138
                   clear HR153_4
                   clear HR153_5
                   clear HR154_4
                   clear HR154_5
                   clear HB
                   have HO_7 := n0_
                   have HO_8 := n1_
                   have HL153_4 := n2_
                   have HL153_5 := n3_
                   have HL154_4 := n4_
                   have HL154_5 := n5_
                   have HO158 := n6_
                   have HO165 := n7_
                   have HO168 := n8_
                   have BK138 := n9_
                   have HR153_4 := n10_
                   have HR153_5 := n11_
                   have HR154_4 := n12_
                   have HR154_5 := n13_
                   have HB := n14_
                   clear n0_ n1_ n2_ n3_ n4_ n5_ n6_ n7_ n8_ n9_ n10_ n11_ n12_ n13_ n14_
                   (try clear hb)
                   (try clear hb2)
                   (try clear hk)
                   (try clear hi)
                   (try clear ho0)
                   (try clear ho1)
                   (try clear ho2)
                   refine hK.out _ _ ⟨HS0_, HS1_, HS2_, HS3_, HS4_, HS5_, ((HB.out.cell (bl9 w _ hw155_0)).trans hw155_0), ((HB.out.cell (bl9 w _ hw155_1)).trans hw155_1), ((HB.out.cell (bl9 w _ hw155_2)).trans hw155_2), ((HB.out.cell (bl9 w _ hw155_3)).trans hw155_3), ((HB.out.cell (bl9 w _ hw155_4)).trans hw155_4), ((HB.out.cell (bl9 w _ hw155_5)).trans hw155_5)⟩ (fun hh => ?_)
                   clear hK K
                   refine norm_ (a' := ?_) ?_ ?_
                   rotate_left
                   ·show Act.put _ (some 82) _ = _
                    simp only [Act.put, List.setIfInBounds_toArray, List.set_cons_zero, List.set_cons_succ, i64_w, i32_w]
                    rfl
                   refine pure_ (i := 11) (N := some 71) (v := ?_) (a' := ?_) #[true, true, true, true, true, true, true, true, true, true, true, true, false, false, false, false, false, false, false] rfl rfl (any_of HT_.out (by kernel_rfl)) (fun _ _ _ h => h) (Or.inl ⟨by rfl, ?_⟩) ?_ ?_
                   rotate_left
                   ·intro w'
                    go_simp
                    with_reducible rfl
                   rotate_left
                   ·simp only [Act.put, List.setIfInBounds_toArray, List.set_cons_zero, List.set_cons_succ, i64_w, i32_w]
                    rfl
                   refine pure_ (i := 12) (N := some 83) (v := ?_) (a' := ?_) #[true, true, true, true, true, true, true, true, true, true, true, true, true, false, false, false, false, false, false] rfl rfl (any_of HT_.out (by kernel_rfl)) (fun _ _ _ h => h) (Or.inl ⟨by rfl, ?_⟩) ?_ ?_
                   rotate_left
                   ·intro w'
                    go_simp
                    with_reducible rfl
                   rotate_left
                   ·simp only [Act.put, List.setIfInBounds_toArray, List.set_cons_zero, List.set_cons_succ, i64_w, i32_w]
                    rfl
                   refine pure_ (i := 13) (N := some 84) (v := ?_) (a' := ?_) #[true, true, true, true, true, true, true, true, true, true, true, true, true, true, false, false, false, false, false] rfl rfl (any_of HT_.out (by kernel_rfl)) (fun _ _ _ h => h) (Or.inl ⟨by rfl, ?_⟩) ?_ ?_
                   rotate_left
                   ·intro w'
                    go_simp
                    with_reducible rfl
                   rotate_left
                   ·simp only [Act.put, List.setIfInBounds_toArray, List.set_cons_zero, List.set_cons_succ, i64_w, i32_w]
                    rfl
                   refine pure_ (i := 14) (N := some 85) (v := ?_) (a' := ?_) #[true, true, true, true, true, true, true, true, true, true, true, true, true, true, true, false, false, false, false] rfl rfl (any_of HT_.out (by kernel_rfl)) (fun _ _ _ h => h) (Or.inl ⟨by rfl, ?_⟩) ?_ ?_
                   rotate_left
                   ·intro w'
                    go_simp
                    with_reducible rfl
                   rotate_left
                   ·simp only [Act.put, List.setIfInBounds_toArray, List.set_cons_zero, List.set_cons_succ, i64_w, i32_w]
                    rfl
                   refine one_ (i := 15) (N := some 12) #[true, true, true, true, true, true, true, true, true, true, true, true, true, true, true, true, false, false, false] rfl rfl (one_of HT_.out (by kernel_rfl)) (by decide) (fun K hK => ?_)
                   refine box_step ?hg (N := 12) ?hd (cs := #[.int .i64 0, .string (⟨#[]⟩ : ByteArray), .int .i64 0, .int .i64 0, .slice none 0 0, .slice none 0 0]) (t := 33) ?hr ?_; (case hd => rfl); (case hg => rfl); (case hr => (go_simp; done))
                   intro g7 hg w39 hbox hb
                   have HS0_ := (hb.cell (bl9 _ _ (hh.1))).trans (hh.1)
                   have HS1_ := (hb.cell (bl9 _ _ (hh.2.1))).trans (hh.2.1)
                   have HS2_ := (hb.cell (bl9 _ _ (hh.2.2.1))).trans (hh.2.2.1)
                   have HS3_ := (hb.cell (bl9 _ _ (hh.2.2.2.1))).trans (hh.2.2.2.1)
                   have HS4_ := (hb.cell (bl9 _ _ (hh.2.2.2.2.1))).trans (hh.2.2.2.2.1)
                   have HS5_ := (hb.cell (bl9 _ _ (hh.2.2.2.2.2.1))).trans (hh.2.2.2.2.2.1)
                   have n0_ := am9 (Kd.R_below (by exact HO_7.out) hb)
                   have n1_ := am9 (Kd.N_below (Kd.N_elderB (by exact HO_8.out) g7 (Nat.le_of_eq hg.symm)) hb)
                   have n2_ := am9 (Kd.V_below (Kd.V_elderB (by exact HL153_4.out) g7 (Nat.le_of_eq hg.symm)) hb)
                   have n3_ := am9 (Kd.V_below (Kd.V_elderB (by exact HL153_5.out) g7 (Nat.le_of_eq hg.symm)) hb)
                   have n4_ := am9 (Kd.V_below (Kd.V_elderB (by exact HL154_4.out) g7 (Nat.le_of_eq hg.symm)) hb)
                   have n5_ := am9 (Kd.V_below (Kd.V_elderB (by exact HL154_5.out) g7 (Nat.le_of_eq hg.symm)) hb)
                   have n6_ := am9 (Kd.R_below (by exact HO158.out) hb)
                   have n7_ := am9 (Kd.V_below (Kd.V_elderB (by exact HO165.out) g7 (Nat.le_of_eq hg.symm)) hb)
                   have n8_ := am9 (Kd.V_below (Kd.V_elderB (by exact HO168.out) g7 (Nat.le_of_eq hg.symm)) hb)
                   have n9_ := am9 (blk_below (g := g3) (o := .cells #[.int .i64 x139000_1, .string x139001_1, .int .i64 x139002_1, .int .i64 x139003_1, .slice none 0 0, .slice none 0 0] 33 (0, 0)) (by exact BK138.out) hb)
                   have n10_ := am9 (Kd.C_below (by repeat (with_reducible exact HR153_4.out)) hb)
                   have n11_ := am9 (Kd.C_below (by repeat (with_reducible exact HR153_5.out)) hb)
                   have n12_ := am9 (Kd.C_below (by repeat (with_reducible exact HR154_4.out)) hb)
                   have n13_ := am9 (Kd.C_below (by repeat (with_reducible exact HR154_5.out)) hb)
                   have n14_ := am9 (below_step (by repeat (with_reducible exact HB.out)) hb)
                   have n15_ := am9 (hbox)
                   have n16_ := am9 ((by rw [hg]; exact (below_size (by repeat (with_reducible exact HB.out))) : w.heap.size ≤ g7))
                   have n17_ := am9 ((by rw [hg]; exact (below_size (by repeat (with_reducible exact HB.out))) : w.heap.size ≤ g7))
                   have n18_ := am9 ((by rw [hg]; exact Nat.ne_of_lt (blk_lt (g := g3) (o := .cells #[.int .i64 x139000_1, .string x139001_1, .int .i64 x139002_1, .int .i64 x139003_1, .slice none 0 0, .slice none 0 0] 33 (0, 0)) (by exact BK138.out)) : g3 ≠ g7))
                   have n19_ := am9 ((by rw [hg]; exact Nat.ne_of_gt (blk_lt (g := g3) (o := .cells #[.int .i64 x139000_1, .string x139001_1, .int .i64 x139002_1, .int .i64 x139003_1, .slice none 0 0, .slice none 0 0] 33 (0, 0)) (by exact BK138.out)) : g7 ≠ g3))
                   clear HO_7
                   clear HO_8
                   clear HL153_4
                   clear HL153_5
                   clear HL154_4
                   clear HL154_5
                   clear HO158
                   clear HO165
                   clear HO168
                   clear BK138
                   clear HR153_4
                   clear HR153_5
                   clear HR154_4
                   clear HR154_5
                   clear HB
                   have HO_7 := n0_
                   have HO_8 := n1_
                   have HL153_4 := n2_
                   have HL153_5 := n3_
                   have HL154_4 := n4_
                   have HL154_5 := n5_
                   have HO158 := n6_
                   have HO165 := n7_
                   have HO168 := n8_
                   have BK138 := n9_
                   have HR153_4 := n10_
                   have HR153_5 := n11_
                   have HR154_4 := n12_
                   have HR154_5 := n13_
                   have HB := n14_
                   have BK170 := n15_
                   have GW170 := n16_
                   have GE170 := n17_
                   have NB138_170 := n18_
                   have NB170_138 := n19_
                   clear n0_ n1_ n2_ n3_ n4_ n5_ n6_ n7_ n8_ n9_ n10_ n11_ n12_ n13_ n14_ n15_ n16_ n17_ n18_ n19_
                   clear hb hbox hg
                   refine hK.out _ _ ⟨HS0_, HS1_, HS2_, HS3_, HS4_, HS5_, ((HB.out.cell (bl9 w _ hw155_0)).trans hw155_0), ((HB.out.cell (bl9 w _ hw155_1)).trans hw155_1), ((HB.out.cell (bl9 w _ hw155_2)).trans hw155_2), ((HB.out.cell (bl9 w _ hw155_3)).trans hw155_3), ((HB.out.cell (bl9 w _ hw155_4)).trans hw155_4), ((HB.out.cell (bl9 w _ hw155_5)).trans hw155_5)⟩ (fun hh => ?_)
                   clear hK K
                   refine norm_ (a' := ?_) ?_ ?_
                   rotate_left
                   ·show Act.put _ (some 12) _ = _
                    simp only [Act.put, List.setIfInBounds_toArray, List.set_cons_zero, List.set_cons_succ, i64_w, i32_w]
                    rfl
                   exact norm_ (by simp only [putAll, Act.put, List.setIfInBounds_toArray, List.set_cons_zero, List.set_cons_succ]) (hCont (v157, v164, v167, g7) _ ⟨hh, (by exact Kd.V_mono HL153_4.out (fun _ hk => ⟨hk.1.1.1.1, ⟨hk.1.2, ⟨hk.1.1.1.2.1, ⟨hk.1.1.2, ⟨hk.1.1.1.2.2, hk.2⟩⟩⟩⟩⟩)), (by exact Kd.V_mono HL153_5.out (fun _ hk => ⟨hk.1.1.1.1, ⟨hk.1.2, ⟨hk.1.1.1.2.1, ⟨hk.1.1.2, ⟨hk.1.1.1.2.2, hk.2⟩⟩⟩⟩⟩)), (by exact Kd.V_mono HL154_4.out (fun _ hk => ⟨hk.1.1.1.1, ⟨hk.1.2, ⟨hk.1.1.1.2.1, ⟨hk.1.1.2, ⟨hk.1.1.1.2.2, hk.2⟩⟩⟩⟩⟩)), (by exact Kd.V_mono HL154_5.out (fun _ hk => ⟨hk.1.1.1.1, ⟨hk.1.2, ⟨hk.1.1.1.2.1, ⟨hk.1.1.2, ⟨hk.1.1.1.2.2, hk.2⟩⟩⟩⟩⟩)), (by exact Kd.R_mono HO158.out (fun _ hk => ⟨hk.1.1, hk.2⟩)), (by exact Kd.V_mono HO165.out (fun _ hk => ⟨hk.1.1, ⟨hk.1.2.1, ⟨hk.1.2.2.1, ⟨hk.1.2.2.2.1, ⟨hk.1.2.2.2.2, hk.2⟩⟩⟩⟩⟩)), (by exact Kd.V_mono HO168.out (fun _ hk => ⟨hk.1.1, ⟨hk.1.2.1, ⟨hk.1.2.2.1, ⟨hk.1.2.2.2.1, ⟨hk.1.2.2.2.2, hk.2⟩⟩⟩⟩⟩)), (by exact HO_7.out), (by exact Kd.N_mono HO_8.out (fun _ hk => ⟨hk.1.1.1, ⟨hk.1.2, ⟨hk.1.1.2.1, ⟨hk.1.1.2.2, hk.2⟩⟩⟩⟩)), (by exact BK138.out), (by exact BK170.out), GW170.out, GE170.out, NB138_170.out, NB170_138.out, (by repeat (with_reducible exact HB.out))⟩)
                  ·skip
                   refine box_step ?hg (N := 12) ?hd (cs := #[.int .i64 0, .string (⟨#[]⟩ : ByteArray), .int .i64 0, .int .i64 0, .slice none 0 0, .slice none 0 0]) (t := 33) ?hr ?_; (case hd => rfl); (case hg => rfl); (case hr => (go_simp; done))
                   intro g7 hg w38 hbox hb
                   have HS0_ := (hb.cell (bl9 _ _ (hh.1))).trans (hh.1)
                   have HS1_ := (hb.cell (bl9 _ _ (hh.2.1))).trans (hh.2.1)
                   have HS2_ := (hb.cell (bl9 _ _ (hh.2.2.1))).trans (hh.2.2.1)
                   have HS3_ := (hb.cell (bl9 _ _ (hh.2.2.2.1))).trans (hh.2.2.2.1)
                   have HS4_ := (hb.cell (bl9 _ _ (hh.2.2.2.2.1))).trans (hh.2.2.2.2.1)
                   have HS5_ := (hb.cell (bl9 _ _ (hh.2.2.2.2.2.1))).trans (hh.2.2.2.2.2.1)
                   have n0_ := am9 (Kd.R_below (by exact HO_7.out) hb)
                   have n1_ := am9 (Kd.N_below (Kd.N_elderB (by exact HO_8.out) g7 (Nat.le_of_eq hg.symm)) hb)
                   have n2_ := am9 (Kd.V_below (Kd.V_elderB (by exact HL153_4.out) g7 (Nat.le_of_eq hg.symm)) hb)
                   have n3_ := am9 (Kd.V_below (Kd.V_elderB (by exact HL153_5.out) g7 (Nat.le_of_eq hg.symm)) hb)
                   have n4_ := am9 (Kd.V_below (Kd.V_elderB (by exact HL154_4.out) g7 (Nat.le_of_eq hg.symm)) hb)
                   have n5_ := am9 (Kd.V_below (Kd.V_elderB (by exact HL154_5.out) g7 (Nat.le_of_eq hg.symm)) hb)
                   have n6_ := am9 (blk_below (g := g3) (o := .cells #[.int .i64 x139000_1, .string x139001_1, .int .i64 x139002_1, .int .i64 x139003_1, .slice none 0 0, .slice none 0 0] 33 (0, 0)) (by exact BK138.out) hb)
                   have n7_ := am9 (Kd.C_below (by repeat (with_reducible exact HR153_4.out)) hb)
                   have n8_ := am9 (Kd.C_below (by repeat (with_reducible exact HR153_5.out)) hb)
                   have n9_ := am9 (Kd.C_below (by repeat (with_reducible exact HR154_4.out)) hb)
                   have n10_ := am9 (Kd.C_below (by repeat (with_reducible exact HR154_5.out)) hb)
                   have n11_ := am9 (below_step (by repeat (with_reducible exact HB.out)) hb)
                   have n12_ := am9 (hbox)
                   have n13_ := am9 ((by rw [hg]; exact (below_size (by repeat (with_reducible exact HB.out))) : w.heap.size ≤ g7))
                   have n14_ := am9 ((by rw [hg]; exact (below_size (by repeat (with_reducible exact HB.out))) : w.heap.size ≤ g7))
                   have n15_ := am9 ((by rw [hg]; exact Nat.ne_of_lt (blk_lt (g := g3) (o := .cells #[.int .i64 x139000_1, .string x139001_1, .int .i64 x139002_1, .int .i64 x139003_1, .slice none 0 0, .slice none 0 0] 33 (0, 0)) (by exact BK138.out)) : g3 ≠ g7))
                   have n16_ := am9 ((by rw [hg]; exact Nat.ne_of_gt (blk_lt (g := g3) (o := .cells #[.int .i64 x139000_1, .string x139001_1, .int .i64 x139002_1, .int .i64 x139003_1, .slice none 0 0, .slice none 0 0] 33 (0, 0)) (by exact BK138.out)) : g7 ≠ g3))
                   clear HO_7
                   clear HO_8
                   clear HL153_4
                   clear HL153_5
                   clear HL154_4
                   clear HL154_5
                   clear BK138
                   clear HR153_4
                   clear HR153_5
                   clear HR154_4
                   clear HR154_5
                   clear HB
                   have HO_7 := n0_
                   have HO_8 := n1_
                   have HL153_4 := n2_
                   have HL153_5 := n3_
                   have HL154_4 := n4_
                   have HL154_5 := n5_
                   have BK138 := n6_
                   have HR153_4 := n7_
                   have HR153_5 := n8_
                   have HR154_4 := n9_
                   have HR154_5 := n10_
                   have HB := n11_
                   have BK170 := n12_
                   have GW170 := n13_
                   have GE170 := n14_
                   have NB138_170 := n15_
                   have NB170_138 := n16_
                   clear n0_ n1_ n2_ n3_ n4_ n5_ n6_ n7_ n8_ n9_ n10_ n11_ n12_ n13_ n14_ n15_ n16_
                   clear hb hbox hg
                   refine hK.out _ _ ⟨HS0_, HS1_, HS2_, HS3_, HS4_, HS5_, ((HB.out.cell (bl9 w _ hw155_0)).trans hw155_0), ((HB.out.cell (bl9 w _ hw155_1)).trans hw155_1), ((HB.out.cell (bl9 w _ hw155_2)).trans hw155_2), ((HB.out.cell (bl9 w _ hw155_3)).trans hw155_3), ((HB.out.cell (bl9 w _ hw155_4)).trans hw155_4), ((HB.out.cell (bl9 w _ hw155_5)).trans hw155_5)⟩ (fun hh => ?_)
                   clear hK K
                   refine norm_ (a' := ?_) ?_ ?_
                   rotate_left
                   ·show Act.put _ (some 12) _ = _
                    simp only [Act.put, List.setIfInBounds_toArray, List.set_cons_zero, List.set_cons_succ, i64_w, i32_w]
                    rfl
                   refine one_ (i := 10) (N := some 82) #[true, true, true, true, true, true, true, true, true, true, true, false, false, false, false, true, false, false, false] rfl rfl (one_of HT_.out (by kernel_rfl)) (by decide) (fun K hK => ?_)
                   refine goes_ Try.func9 (by kernel_rfl) rfl #[.slice A154_4 ((rd_T33 t139 x9_1).f4).length c154_4, .slice A155_4 ((rd_T33 l1 t144).f4).length c155_4] (by rfl) rfl rfl (by (try simp only [List.map_toArray, List.map_cons, List.map_nil]); rfl) ?_
                   with_reducible refine (ih kj20 (by have := HK1.out; have := HJ20.out; omega) (fun k_ => ((((P0_ k_ ∨ w.heap.size ≤ k_) ∧ (some k_ ≠ (u7 : Value).ownBlock ∧ k_ ≠ g3)) ∧ some k_ ≠ (.slice (some ad142) t139.length co22 : Value).ownBlock) ∧ k_ ≠ g7)) _ _ ((rd_T33 t139 x9_1).f4) _ _ ((rd_T33 l1 t144).f4) t156 t159 t160 t161 t162 t163 t166 true _ ?side1 ?side2 ?side3 A34.out).mono ?_
                   (case side1 => exact HL154_4.out)
                   (case side2 => repeat (exact (Kd.C_below HR155_4.out HB.out)))
                   (case side3 => exact HC155_4.out)
                   rintro e w39 ⟨v157, v164, v167, rfl, ho0, ho1, ho2, hb⟩
                   have HS0_ := (hb.cell (bl9 _ _ (hh.1))).trans (hh.1)
                   have HS1_ := (hb.cell (bl9 _ _ (hh.2.1))).trans (hh.2.1)
                   have HS2_ := (hb.cell (bl9 _ _ (hh.2.2.1))).trans (hh.2.2.1)
                   have HS3_ := (hb.cell (bl9 _ _ (hh.2.2.2.1))).trans (hh.2.2.2.1)
                   have HS4_ := (hb.cell (bl9 _ _ (hh.2.2.2.2.1))).trans (hh.2.2.2.2.1)
                   have HS5_ := (hb.cell (bl9 _ _ (hh.2.2.2.2.2.1))).trans (hh.2.2.2.2.2.1)
                   refine ⟨_, rfl, ?_⟩
                   have n0_ := am9 (Kd.R_elder' (by exact HO_7.out) (Kd.R_base ho0) hb)
                   have n1_ := am9 (Kd.N_elder' (by exact HO_8.out) (Kd.R_base ho0) hb)
                   have n2_ := am9 (Kd.V_elder' (by exact HL153_4.out) (Kd.R_base ho0) hb)
                   have n3_ := am9 (Kd.V_elder' (by exact HL153_5.out) (Kd.R_base ho0) hb)
                   have n4_ := am9 (Kd.V_elder' (by exact HL154_4.out) (Kd.R_base ho0) hb)
                   have n5_ := am9 (Kd.V_elder' (by exact HL154_5.out) (Kd.R_base ho0) hb)
                   have n6_ := am9 (Kd.R_lower (Kd.R_new' (Kd.R_newM (M := fun k_ => (w.heap.size ≤ k_)) (Kd.R_mono (ok' := fun k_ => True) ho0 (fun _ hk_ => trivial)) (below_size (by repeat (with_reducible exact HB.out))) (fun k_ h_ => h_)) (Kd.R_lt (by exact HO_7.out))) (below_size (by repeat (with_reducible exact HB.out))))
                   have n7_ := am9 (Kd.V_lower (Kd.V_mono (ok' := fun k_ => (P0_ k_ ∨ w.heap.size ≤ k_) ∧ some k_ ≠ (v157 : Value).ownBlock ∧ some k_ ≠ (u7 : Value).ownBlock ∧ some k_ ≠ (.slice (some ad142) t139.length co22 : Value).ownBlock ∧ k_ ≠ g3 ∧ k_ ≠ g7) ho1 (fun k_ hk_ => ⟨Or.elim hk_.1 (fun hs_ => hs_.1.1.1) (fun hn_ => (.inr (Nat.le_trans (below_size (by repeat (with_reducible exact HB.out))) hn_))), hk_.2, Or.elim hk_.1 (fun hs_ => hs_.1.1.2.1) (fun hn_ => (Kd.fresh' (Kd.R_lt (by exact HO_7.out)) k_ hn_)), Or.elim hk_.1 (fun hs_ => hs_.1.2) (fun hn_ => (Kd.fresh' (Kd.N_lt (by exact HO_8.out)) k_ hn_)), Or.elim hk_.1 (fun hs_ => hs_.1.1.2.2) (fun hn_ => (Kd.freshB (g := g3) (o := .cells #[.int .i64 x139000_1, .string x139001_1, .int .i64 x139002_1, .int .i64 x139003_1, .slice none 0 0, .slice none 0 0] 33 (0, 0)) (by exact BK138.out) k_ hn_)), Or.elim hk_.1 (fun hs_ => hs_.2) (fun hn_ => (Kd.freshB (g := g7) (o := .cells #[.int .i64 0, .string (⟨#[]⟩ : ByteArray), .int .i64 0, .int .i64 0, .slice none 0 0, .slice none 0 0] 33 (0, 0)) (by exact BK170.out) k_ hn_))⟩)) (below_size (by repeat (with_reducible exact HB.out))))
                   have n8_ := am9 (Kd.V_lower (Kd.V_mono (ok' := fun k_ => (P0_ k_ ∨ w.heap.size ≤ k_) ∧ some k_ ≠ (v157 : Value).ownBlock ∧ some k_ ≠ (u7 : Value).ownBlock ∧ some k_ ≠ (.slice (some ad142) t139.length co22 : Value).ownBlock ∧ k_ ≠ g3 ∧ k_ ≠ g7) ho2 (fun k_ hk_ => ⟨Or.elim hk_.1 (fun hs_ => hs_.1.1.1) (fun hn_ => (.inr (Nat.le_trans (below_size (by repeat (with_reducible exact HB.out))) hn_))), hk_.2, Or.elim hk_.1 (fun hs_ => hs_.1.1.2.1) (fun hn_ => (Kd.fresh' (Kd.R_lt (by exact HO_7.out)) k_ hn_)), Or.elim hk_.1 (fun hs_ => hs_.1.2) (fun hn_ => (Kd.fresh' (Kd.N_lt (by exact HO_8.out)) k_ hn_)), Or.elim hk_.1 (fun hs_ => hs_.1.1.2.2) (fun hn_ => (Kd.freshB (g := g3) (o := .cells #[.int .i64 x139000_1, .string x139001_1, .int .i64 x139002_1, .int .i64 x139003_1, .slice none 0 0, .slice none 0 0] 33 (0, 0)) (by exact BK138.out) k_ hn_)), Or.elim hk_.1 (fun hs_ => hs_.2) (fun hn_ => (Kd.freshB (g := g7) (o := .cells #[.int .i64 0, .string (⟨#[]⟩ : ByteArray), .int .i64 0, .int .i64 0, .slice none 0 0, .slice none 0 0] 33 (0, 0)) (by exact BK170.out) k_ hn_))⟩)) (below_size (by repeat (with_reducible exact HB.out))))
                   have n9_ := am9 (blk_below (g := g3) (o := .cells #[.int .i64 x139000_1, .string x139001_1, .int .i64 x139002_1, .int .i64 x139003_1, .slice none 0 0, .slice none 0 0] 33 (0, 0)) (by exact BK138.out) hb)
                   have n10_ := am9 (Kd.C_below (by repeat (with_reducible exact HR153_4.out)) hb)
                   have n11_ := am9 (Kd.C_below (by repeat (with_reducible exact HR153_5.out)) hb)
                   have n12_ := am9 (Kd.C_below (by repeat (with_reducible exact HR154_4.out)) hb)
                   have n13_ := am9 (Kd.C_below (by repeat (with_reducible exact HR154_5.out)) hb)
                   have n14_ := am9 (blk_below (g := g7) (o := .cells #[.int .i64 0, .string (⟨#[]⟩ : ByteArray), .int .i64 0, .int .i64 0, .slice none 0 0, .slice none 0 0] 33 (0, 0)) (by exact BK170.out) hb)
                   have n15_ := am9 (below_step (by repeat (with_reducible exact HB.out)) hb)
                   clear HO_7
                   clear HO_8
                   clear HL153_4
                   clear HL153_5
                   clear HL154_4
                   clear HL154_5
                   clear BK138
                   clear HR153_4
                   clear HR153_5
                   clear HR154_4
                   clear HR154_5
                   clear BK170
                   clear HB
                   have HO_7 := n0_
                   have HO_8 := n1_
                   have HL153_4 := n2_
                   have HL153_5 := n3_
                   have HL154_4 := n4_
                   have HL154_5 := n5_
                   have HO158 := n6_
                   have HO165 := n7_
                   have HO168 := n8_
                   have BK138 := n9_
                   have HR153_4 := n10_
                   have HR153_5 := n11_
                   have HR154_4 := n12_
                   have HR154_5 := n13_
                   have BK170 := n14_
                   have HB := n15_
                   clear n0_ n1_ n2_ n3_ n4_ n5_ n6_ n7_ n8_ n9_ n10_ n11_ n12_ n13_ n14_ n15_
                   (try clear hb)
                   (try clear hb2)
                   (try clear hk)
                   (try clear hi)
                   (try clear ho0)
                   (try clear ho1)
                   (try clear ho2)
                   refine hK.out _ _ ⟨HS0_, HS1_, HS2_, HS3_, HS4_, HS5_, ((HB.out.cell (bl9 w _ hw155_0)).trans hw155_0), ((HB.out.cell (bl9 w _ hw155_1)).trans hw155_1), ((HB.out.cell (bl9 w _ hw155_2)).trans hw155_2), ((HB.out.cell (bl9 w _ hw155_3)).trans hw155_3), ((HB.out.cell (bl9 w _ hw155_4)).trans hw155_4), ((HB.out.cell (bl9 w _ hw155_5)).trans hw155_5)⟩ (fun hh => ?_)
                   clear hK K
                   refine norm_ (a' := ?_) ?_ ?_
                   rotate_left
                   ·show Act.put _ (some 82) _ = _
                    simp only [Act.put, List.setIfInBounds_toArray, List.set_cons_zero, List.set_cons_succ, i64_w, i32_w]
                    rfl
                   refine pure_ (i := 11) (N := some 71) (v := ?_) (a' := ?_) #[true, true, true, true, true, true, true, true, true, true, true, true, false, false, false, true, false, false, false] rfl rfl (any_of HT_.out (by kernel_rfl)) (fun _ _ _ h => h) (Or.inl ⟨by rfl, ?_⟩) ?_ ?_
                   rotate_left
                   ·intro w'
                    go_simp
                    with_reducible rfl
                   rotate_left
                   ·simp only [Act.put, List.setIfInBounds_toArray, List.set_cons_zero, List.set_cons_succ, i64_w, i32_w]
                    rfl
                   refine pure_ (i := 12) (N := some 83) (v := ?_) (a' := ?_) #[true, true, true, true, true, true, true, true, true, true, true, true, true, false, false, true, false, false, false] rfl rfl (any_of HT_.out (by kernel_rfl)) (fun _ _ _ h => h) (Or.inl ⟨by rfl, ?_⟩) ?_ ?_
                   rotate_left
                   ·intro w'
                    go_simp
                    with_reducible rfl
                   rotate_left
                   ·simp only [Act.put, List.setIfInBounds_toArray, List.set_cons_zero, List.set_cons_succ, i64_w, i32_w]
                    rfl
                   refine pure_ (i := 13) (N := some 84) (v := ?_) (a' := ?_) #[true, true, true, true, true, true, true, true, true, true, true, true, true, true, false, true, false, false, false] rfl rfl (any_of HT_.out (by kernel_rfl)) (fun _ _ _ h => h) (Or.inl ⟨by rfl, ?_⟩) ?_ ?_
                   rotate_left
                   ·intro w'
                    go_simp
                    with_reducible rfl
                   rotate_left
                   ·simp only [Act.put, List.setIfInBounds_toArray, List.set_cons_zero, List.set_cons_succ, i64_w, i32_w]
                    rfl
                   refine pure_ (i := 14) (N := some 85) (v := ?_) (a' := ?_) #[true, true, true, true, true, true, true, true, true, true, true, true, true, true, true, true, false, false, false] rfl rfl (any_of HT_.out (by kernel_rfl)) (fun _ _ _ h => h) (Or.inl ⟨by rfl, ?_⟩) ?_ ?_
                   rotate_left
                   ·intro w'
                    go_simp
                    with_reducible rfl
                   rotate_left
                   ·simp only [Act.put, List.setIfInBounds_toArray, List.set_cons_zero, List.set_cons_succ, i64_w, i32_w]
                    rfl
                   exact norm_ (by simp only [putAll, Act.put, List.setIfInBounds_toArray, List.set_cons_zero, List.set_cons_succ]) (hCont (v157, v164, v167, g7) _ ⟨hh, (by exact Kd.V_mono HL153_4.out (fun _ hk => ⟨hk.1.1.1.1, ⟨hk.2, ⟨hk.1.1.1.2.1, ⟨hk.1.1.2, ⟨hk.1.1.1.2.2, hk.1.2⟩⟩⟩⟩⟩)), (by exact Kd.V_mono HL153_5.out (fun _ hk => ⟨hk.1.1.1.1, ⟨hk.2, ⟨hk.1.1.1.2.1, ⟨hk.1.1.2, ⟨hk.1.1.1.2.2, hk.1.2⟩⟩⟩⟩⟩)), (by exact Kd.V_mono HL154_4.out (fun _ hk => ⟨hk.1.1.1.1, ⟨hk.2, ⟨hk.1.1.1.2.1, ⟨hk.1.1.2, ⟨hk.1.1.1.2.2, hk.1.2⟩⟩⟩⟩⟩)), (by exact Kd.V_mono HL154_5.out (fun _ hk => ⟨hk.1.1.1.1, ⟨hk.2, ⟨hk.1.1.1.2.1, ⟨hk.1.1.2, ⟨hk.1.1.1.2.2, hk.1.2⟩⟩⟩⟩⟩)), (by exact Kd.R_mono HO158.out (fun _ hk => ⟨hk.1.1, hk.2⟩)), (by exact HO165.out), (by exact HO168.out), (by exact HO_7.out), (by exact Kd.N_mono HO_8.out (fun _ hk => ⟨hk.1.1.1, ⟨hk.2, ⟨hk.1.1.2.1, ⟨hk.1.1.2.2, hk.1.2⟩⟩⟩⟩)), (by exact BK138.out), (by exact BK170.out), GW170.out, GE170.out, NB138_170.out, NB170_138.out, (by repeat (with_reducible exact HB.out))⟩)
                 rintro ⟨v157, v164, v167, g7⟩ w40 ⟨hS_, h0_, h1_, h2_, h3_, h4_, h5_, h6_, h7_, h8_, h9_, h10_, h11_, h12_, h13_, h14_, h15_⟩
                 have n0_ : Aside0 (Kd.V k33 33 w40 w.heap.size (fun k_ => (P0_ k_ ∨ w.heap.size ≤ k_) ∧ some k_ ≠ (v157 : Value).ownBlock ∧ some k_ ≠ (u7 : Value).ownBlock ∧ some k_ ≠ (.slice (some ad142) t139.length co22 : Value).ownBlock ∧ k_ ≠ g3 ∧ k_ ≠ g7) (.slice A153_4 ((rd_T33 t139 x9_1).f4).length c153_4) ((rd_T33 t139 x9_1).f4)) := ⟨h0_⟩
                 have n1_ : Aside0 (Kd.V k33 33 w40 w.heap.size (fun k_ => (P0_ k_ ∨ w.heap.size ≤ k_) ∧ some k_ ≠ (v157 : Value).ownBlock ∧ some k_ ≠ (u7 : Value).ownBlock ∧ some k_ ≠ (.slice (some ad142) t139.length co22 : Value).ownBlock ∧ k_ ≠ g3 ∧ k_ ≠ g7) (.slice A153_5 ((rd_T33 t139 x9_1).f5).length c153_5) ((rd_T33 t139 x9_1).f5)) := ⟨h1_⟩
                 have n2_ : Aside0 (Kd.V k33 33 w40 w.heap.size (fun k_ => (P0_ k_ ∨ w.heap.size ≤ k_) ∧ some k_ ≠ (v157 : Value).ownBlock ∧ some k_ ≠ (u7 : Value).ownBlock ∧ some k_ ≠ (.slice (some ad142) t139.length co22 : Value).ownBlock ∧ k_ ≠ g3 ∧ k_ ≠ g7) (.slice A154_4 ((rd_T33 t139 x9_1).f4).length c154_4) ((rd_T33 t139 x9_1).f4)) := ⟨h2_⟩
                 have n3_ : Aside0 (Kd.V k33 33 w40 w.heap.size (fun k_ => (P0_ k_ ∨ w.heap.size ≤ k_) ∧ some k_ ≠ (v157 : Value).ownBlock ∧ some k_ ≠ (u7 : Value).ownBlock ∧ some k_ ≠ (.slice (some ad142) t139.length co22 : Value).ownBlock ∧ k_ ≠ g3 ∧ k_ ≠ g7) (.slice A154_5 ((rd_T33 t139 x9_1).f5).length c154_5) ((rd_T33 t139 x9_1).f5)) := ⟨h3_⟩
                 have n4_ : Aside0 (Kd.R k42 42 w40 w.heap.size (fun k_ => (w.heap.size ≤ k_) ∧ some k_ ≠ (u7 : Value).ownBlock) v157 t156) := ⟨h4_⟩
                 have n5_ : Aside0 (Kd.V k33 33 w40 w.heap.size (fun k_ => (P0_ k_ ∨ w.heap.size ≤ k_) ∧ some k_ ≠ (v157 : Value).ownBlock ∧ some k_ ≠ (u7 : Value).ownBlock ∧ some k_ ≠ (.slice (some ad142) t139.length co22 : Value).ownBlock ∧ k_ ≠ g3 ∧ k_ ≠ g7) v164 t163) := ⟨h5_⟩
                 have n6_ : Aside0 (Kd.V k33 33 w40 w.heap.size (fun k_ => (P0_ k_ ∨ w.heap.size ≤ k_) ∧ some k_ ≠ (v157 : Value).ownBlock ∧ some k_ ≠ (u7 : Value).ownBlock ∧ some k_ ≠ (.slice (some ad142) t139.length co22 : Value).ownBlock ∧ k_ ≠ g3 ∧ k_ ≠ g7) v167 t166) := ⟨h6_⟩
                 have n7_ : Aside0 (Kd.R k42 42 w40 w.heap.size (fun k_ => (w.heap.size ≤ k_) ∧ some k_ ≠ (v157 : Value).ownBlock) u7 x7_20) := ⟨h7_⟩
                 have n8_ : Aside0 (Kd.N k33 33 w40 w.heap.size (fun k_ => (P0_ k_ ∨ w.heap.size ≤ k_) ∧ some k_ ≠ (v157 : Value).ownBlock ∧ some k_ ≠ (u7 : Value).ownBlock ∧ k_ ≠ g3 ∧ k_ ≠ g7) (.slice (some ad142) t139.length co22) t139) := ⟨h8_⟩
                 have n9_ : Aside0 (w40.heap[g3]? = some (.cells #[.int .i64 x139000_1, .string x139001_1, .int .i64 x139002_1, .int .i64 x139003_1, .slice none 0 0, .slice none 0 0] 33 (0, 0))) := ⟨h9_⟩
                 have n10_ : Aside0 (w40.heap[g7]? = some (.cells #[.int .i64 0, .string (⟨#[]⟩ : ByteArray), .int .i64 0, .int .i64 0, .slice none 0 0, .slice none 0 0] 33 (0, 0))) := ⟨h10_⟩
                 have n11_ : Aside0 (w.heap.size ≤ g7) := ⟨h11_⟩
                 have n12_ : Aside0 (w.heap.size ≤ g7) := ⟨h12_⟩
                 have n13_ : Aside0 (g3 ≠ g7) := ⟨h13_⟩
                 have n14_ : Aside0 (g7 ≠ g3) := ⟨h14_⟩
                 have n15_ : Aside0 (Below w.heap.size w w40) := ⟨h15_⟩
                 clear HO_7
                 clear HO_8
                 clear HL153_4
                 clear HL153_5
                 clear BK138
                 clear HR153_4
                 clear HR153_5
                 clear HB
                 clear h0_ h1_ h2_ h3_ h4_ h5_ h6_ h7_ h8_ h9_ h10_ h11_ h12_ h13_ h14_ h15_
                 have HL153_4 := n0_
                 have HL153_5 := n1_
                 have HL154_4 := n2_
                 have HL154_5 := n3_
                 have HO158 := n4_
                 have HO165 := n5_
                 have HO168 := n6_
                 have HO_7 := n7_
                 have HO_8 := n8_
                 have BK138 := n9_
                 have BK170 := n10_
                 have GW170 := n11_
                 have GE170 := n12_
                 have NB138_170 := n13_
                 have NB170_138 := n14_
                 have HB := n15_
                 clear n0_ n1_ n2_ n3_ n4_ n5_ n6_ n7_ n8_ n9_ n10_ n11_ n12_ n13_ n14_ n15_
                 have hh : w40.cell? (ad142.add ((x9_1).toNat * 6)) = some (.int .i64 ((rd_T33 t139 x9_1).f0)) ∧ w40.cell? ⟨(ad142.add ((x9_1).toNat * 6)).block, (ad142.add ((x9_1).toNat * 6)).off + 1, none⟩ = some (.string ((rd_T33 t139 x9_1).f1)) ∧ w40.cell? ⟨(ad142.add ((x9_1).toNat * 6)).block, (ad142.add ((x9_1).toNat * 6)).off + 2, none⟩ = some (.int .i64 ((rd_T33 t139 x9_1).f2)) ∧ w40.cell? ⟨(ad142.add ((x9_1).toNat * 6)).block, (ad142.add ((x9_1).toNat * 6)).off + 3, none⟩ = some (.int .i64 ((rd_T33 t139 x9_1).f3)) ∧ w40.cell? ⟨(ad142.add ((x9_1).toNat * 6)).block, (ad142.add ((x9_1).toNat * 6)).off + 4, none⟩ = some (.slice A154_4 ((rd_T33 t139 x9_1).f4).length c154_4) ∧ w40.cell? ⟨(ad142.add ((x9_1).toNat * 6)).block, (ad142.add ((x9_1).toNat * 6)).off + 5, none⟩ = some (.slice A154_5 ((rd_T33 t139 x9_1).f5).length c154_5) ∧ w40.cell? (ad147.add ((t144).toNat * 6)) = some (.int .i64 ((rd_T33 l1 t144).f0)) ∧ w40.cell? ⟨(ad147.add ((t144).toNat * 6)).block, (ad147.add ((t144).toNat * 6)).off + 1, none⟩ = some (.string ((rd_T33 l1 t144).f1)) ∧ w40.cell? ⟨(ad147.add ((t144).toNat * 6)).block, (ad147.add ((t144).toNat * 6)).off + 2, none⟩ = some (.int .i64 ((rd_T33 l1 t144).f2)) ∧ w40.cell? ⟨(ad147.add ((t144).toNat * 6)).block, (ad147.add ((t144).toNat * 6)).off + 3, none⟩ = some (.int .i64 ((rd_T33 l1 t144).f3)) ∧ w40.cell? ⟨(ad147.add ((t144).toNat * 6)).block, (ad147.add ((t144).toNat * 6)).off + 4, none⟩ = some (.slice A155_4 ((rd_T33 l1 t144).f4).length c155_4) ∧ w40.cell? ⟨(ad147.add ((t144).toNat * 6)).block, (ad147.add ((t144).toNat * 6)).off + 5, none⟩ = some (.slice A155_5 ((rd_T33 l1 t144).f5).length c155_5) := hS_
                 obtain ⟨Ao45, co45, eo45⟩ := Kd.V_slice HO165.out
                 (subst eo45)
                 obtain ⟨Ao47, co47, eo47⟩ := Kd.V_slice HO168.out
                 (subst eo47)
                 refine norm_ (a' := ?_) ?_ ?_
                 rotate_left
                 ·simp only [putAll, Act.put, List.setIfInBounds_toArray, List.set_cons_zero, List.set_cons_succ]
                  rfl
                 refine pure_ (i := 16) (N := some 11) (v := ?_) (a' := ?_) #[true, true, true, true, true, true, true, true, true, true, true, true, true, true, true, true, true, false, false] rfl rfl (any_of HT_.out (by kernel_rfl)) (fun _ _ _ h => h) (Or.inl ⟨by rfl, ?_⟩) ?_ ?_
                 rotate_left
                 ·intro w'
                  go_simp
                  with_reducible rfl
                 rotate_left
                 ·simp only [Act.put, List.setIfInBounds_toArray, List.set_cons_zero, List.set_cons_succ, i64_w, i32_w]
                  rfl
                 refine one_ (i := 17) (N := none) #[true, true, true, true, true, true, true, true, true, true, true, true, true, true, true, true, true, true, false] rfl rfl (one_of HT_.out (by kernel_rfl)) (by decide) (fun K hK => ?_)
                 have hs41 : w40.cell? ⟨g7, 0, none⟩ = some (.int .i64 0) := (blk_cell BK170.out 0).trans rfl
                 have hfs41 := blk_frozen BK170.out 0
                 have hns41_0 := NB138_170.out
                 have hms41_0 := NB170_138.out
                 have hs42 : w40.cell? ⟨g7, 1, none⟩ = some (.string (⟨#[]⟩ : ByteArray)) := (blk_cell BK170.out 1).trans rfl
                 have hfs42 := blk_frozen BK170.out 1
                 have hns42_0 := NB138_170.out
                 have hms42_0 := NB170_138.out
                 have hs43 : w40.cell? ⟨g7, 2, none⟩ = some (.int .i64 0) := (blk_cell BK170.out 2).trans rfl
                 have hfs43 := blk_frozen BK170.out 2
                 have hns43_0 := NB138_170.out
                 have hms43_0 := NB170_138.out
                 have hs44 : w40.cell? ⟨g7, 3, none⟩ = some (.int .i64 0) := (blk_cell BK170.out 3).trans rfl
                 have hfs44 := blk_frozen BK170.out 3
                 have hns44_0 := NB138_170.out
                 have hms44_0 := NB170_138.out
                 have hs46 : w40.cell? ⟨g7, 4, none⟩ = some (.slice none 0 0) := (blk_cell BK170.out 4).trans rfl
                 have hfs46 := blk_frozen BK170.out 4
                 have hns46_0 := NB138_170.out
                 have hms46_0 := NB170_138.out
                 have hs48 : w40.cell? ⟨g7, 5, none⟩ = some (.slice none 0 0) := (blk_cell BK170.out 5).trans rfl
                 have hfs48 := blk_frozen BK170.out 5
                 have hns48_0 := NB138_170.out
                 have hms48_0 := NB170_138.out
                 refine skip_ (w1 := ?_) (by rfl) rfl ?_ ?_
                 rotate_left
                 ·go_simp
                  rfl
                 refine hK.out _ _ ⟨((cell_far (p := ⟨g7, _, none⟩) (by (rw [add_block]; exact Kd.own_blk (Kd.N_away HO_8.out (fun _ hk => hk.2.2.2.2)))) _).trans (((cell_far (p := ⟨g7, _, none⟩) (by (rw [add_block]; exact Kd.own_blk (Kd.N_away HO_8.out (fun _ hk => hk.2.2.2.2)))) _).trans (((cell_far (p := ⟨g7, _, none⟩) (by (rw [add_block]; exact Kd.own_blk (Kd.N_away HO_8.out (fun _ hk => hk.2.2.2.2)))) _).trans (((cell_far (p := ⟨g7, _, none⟩) (by (rw [add_block]; exact Kd.own_blk (Kd.N_away HO_8.out (fun _ hk => hk.2.2.2.2)))) _).trans (((cell_far (p := ⟨g7, _, none⟩) (by (rw [add_block]; exact Kd.own_blk (Kd.N_away HO_8.out (fun _ hk => hk.2.2.2.2)))) _).trans (((cell_far (p := ⟨g7, _, none⟩) (by (rw [add_block]; exact Kd.own_blk (Kd.N_away HO_8.out (fun _ hk => hk.2.2.2.2)))) _).trans (hh.1)))))))))))), ((cell_far (p := ⟨g7, _, none⟩) (by (rw [add_block]; exact Kd.own_blk (Kd.N_away HO_8.out (fun _ hk => hk.2.2.2.2)))) _).trans (((cell_far (p := ⟨g7, _, none⟩) (by (rw [add_block]; exact Kd.own_blk (Kd.N_away HO_8.out (fun _ hk => hk.2.2.2.2)))) _).trans (((cell_far (p := ⟨g7, _, none⟩) (by (rw [add_block]; exact Kd.own_blk (Kd.N_away HO_8.out (fun _ hk => hk.2.2.2.2)))) _).trans (((cell_far (p := ⟨g7, _, none⟩) (by (rw [add_block]; exact Kd.own_blk (Kd.N_away HO_8.out (fun _ hk => hk.2.2.2.2)))) _).trans (((cell_far (p := ⟨g7, _, none⟩) (by (rw [add_block]; exact Kd.own_blk (Kd.N_away HO_8.out (fun _ hk => hk.2.2.2.2)))) _).trans (((cell_far (p := ⟨g7, _, none⟩) (by (rw [add_block]; exact Kd.own_blk (Kd.N_away HO_8.out (fun _ hk => hk.2.2.2.2)))) _).trans (hh.2.1)))))))))))), ((cell_far (p := ⟨g7, _, none⟩) (by (rw [add_block]; exact Kd.own_blk (Kd.N_away HO_8.out (fun _ hk => hk.2.2.2.2)))) _).trans (((cell_far (p := ⟨g7, _, none⟩) (by (rw [add_block]; exact Kd.own_blk (Kd.N_away HO_8.out (fun _ hk => hk.2.2.2.2)))) _).trans (((cell_far (p := ⟨g7, _, none⟩) (by (rw [add_block]; exact Kd.own_blk (Kd.N_away HO_8.out (fun _ hk => hk.2.2.2.2)))) _).trans (((cell_far (p := ⟨g7, _, none⟩) (by (rw [add_block]; exact Kd.own_blk (Kd.N_away HO_8.out (fun _ hk => hk.2.2.2.2)))) _).trans (((cell_far (p := ⟨g7, _, none⟩) (by (rw [add_block]; exact Kd.own_blk (Kd.N_away HO_8.out (fun _ hk => hk.2.2.2.2)))) _).trans (((cell_far (p := ⟨g7, _, none⟩) (by (rw [add_block]; exact Kd.own_blk (Kd.N_away HO_8.out (fun _ hk => hk.2.2.2.2)))) _).trans (hh.2.2.1)))))))))))), ((cell_far (p := ⟨g7, _, none⟩) (by (rw [add_block]; exact Kd.own_blk (Kd.N_away HO_8.out (fun _ hk => hk.2.2.2.2)))) _).trans (((cell_far (p := ⟨g7, _, none⟩) (by (rw [add_block]; exact Kd.own_blk (Kd.N_away HO_8.out (fun _ hk => hk.2.2.2.2)))) _).trans (((cell_far (p := ⟨g7, _, none⟩) (by (rw [add_block]; exact Kd.own_blk (Kd.N_away HO_8.out (fun _ hk => hk.2.2.2.2)))) _).trans (((cell_far (p := ⟨g7, _, none⟩) (by (rw [add_block]; exact Kd.own_blk (Kd.N_away HO_8.out (fun _ hk => hk.2.2.2.2)))) _).trans (((cell_far (p := ⟨g7, _, none⟩) (by (rw [add_block]; exact Kd.own_blk (Kd.N_away HO_8.out (fun _ hk => hk.2.2.2.2)))) _).trans (((cell_far (p := ⟨g7, _, none⟩) (by (rw [add_block]; exact Kd.own_blk (Kd.N_away HO_8.out (fun _ hk => hk.2.2.2.2)))) _).trans (hh.2.2.2.1)))))))))))), ((cell_far (p := ⟨g7, _, none⟩) (by (rw [add_block]; exact Kd.own_blk (Kd.N_away HO_8.out (fun _ hk => hk.2.2.2.2)))) _).trans (((cell_far (p := ⟨g7, _, none⟩) (by (rw [add_block]; exact Kd.own_blk (Kd.N_away HO_8.out (fun _ hk => hk.2.2.2.2)))) _).trans (((cell_far (p := ⟨g7, _, none⟩) (by (rw [add_block]; exact Kd.own_blk (Kd.N_away HO_8.out (fun _ hk => hk.2.2.2.2)))) _).trans (((cell_far (p := ⟨g7, _, none⟩) (by (rw [add_block]; exact Kd.own_blk (Kd.N_away HO_8.out (fun _ hk => hk.2.2.2.2)))) _).trans (((cell_far (p := ⟨g7, _, none⟩) (by (rw [add_block]; exact Kd.own_blk (Kd.N_away HO_8.out (fun _ hk => hk.2.2.2.2)))) _).trans (((cell_far (p := ⟨g7, _, none⟩) (by (rw [add_block]; exact Kd.own_blk (Kd.N_away HO_8.out (fun _ hk => hk.2.2.2.2)))) _).trans (hh.2.2.2.2.1)))))))))))), ((cell_far (p := ⟨g7, _, none⟩) (by (rw [add_block]; exact Kd.own_blk (Kd.N_away HO_8.out (fun _ hk => hk.2.2.2.2)))) _).trans (((cell_far (p := ⟨g7, _, none⟩) (by (rw [add_block]; exact Kd.own_blk (Kd.N_away HO_8.out (fun _ hk => hk.2.2.2.2)))) _).trans (((cell_far (p := ⟨g7, _, none⟩) (by (rw [add_block]; exact Kd.own_blk (Kd.N_away HO_8.out (fun _ hk => hk.2.2.2.2)))) _).trans (((cell_far (p := ⟨g7, _, none⟩) (by (rw [add_block]; exact Kd.own_blk (Kd.N_away HO_8.out (fun _ hk => hk.2.2.2.2)))) _).trans (((cell_far (p := ⟨g7, _, none⟩) (by (rw [add_block]; exact Kd.own_blk (Kd.N_away HO_8.out (fun _ hk => hk.2.2.2.2)))) _).trans (((cell_far (p := ⟨g7, _, none⟩) (by (rw [add_block]; exact Kd.own_blk (Kd.N_away HO_8.out (fun _ hk => hk.2.2.2.2)))) _).trans (hh.2.2.2.2.2.1)))))))))))), ((cell_far (p := ⟨g7, _, none⟩) (by exact Nat.ne_of_lt (Nat.lt_of_lt_of_le (by have := bl9 _ _ hw155_0; exact this) GW170.out)) _).trans (((cell_far (p := ⟨g7, _, none⟩) (by exact Nat.ne_of_lt (Nat.lt_of_lt_of_le (by have := bl9 _ _ hw155_0; exact this) GW170.out)) _).trans (((cell_far (p := ⟨g7, _, none⟩) (by exact Nat.ne_of_lt (Nat.lt_of_lt_of_le (by have := bl9 _ _ hw155_0; exact this) GW170.out)) _).trans (((cell_far (p := ⟨g7, _, none⟩) (by exact Nat.ne_of_lt (Nat.lt_of_lt_of_le (by have := bl9 _ _ hw155_0; exact this) GW170.out)) _).trans (((cell_far (p := ⟨g7, _, none⟩) (by exact Nat.ne_of_lt (Nat.lt_of_lt_of_le (by have := bl9 _ _ hw155_0; exact this) GW170.out)) _).trans (((cell_far (p := ⟨g7, _, none⟩) (by exact Nat.ne_of_lt (Nat.lt_of_lt_of_le (by have := bl9 _ _ hw155_0; exact this) GW170.out)) _).trans (hh.2.2.2.2.2.2.1)))))))))))), ((cell_far (p := ⟨g7, _, none⟩) (by exact Nat.ne_of_lt (Nat.lt_of_lt_of_le (by have := bl9 _ _ hw155_1; exact this) GW170.out)) _).trans (((cell_far (p := ⟨g7, _, none⟩) (by exact Nat.ne_of_lt (Nat.lt_of_lt_of_le (by have := bl9 _ _ hw155_1; exact this) GW170.out)) _).trans (((cell_far (p := ⟨g7, _, none⟩) (by exact Nat.ne_of_lt (Nat.lt_of_lt_of_le (by have := bl9 _ _ hw155_1; exact this) GW170.out)) _).trans (((cell_far (p := ⟨g7, _, none⟩) (by exact Nat.ne_of_lt (Nat.lt_of_lt_of_le (by have := bl9 _ _ hw155_1; exact this) GW170.out)) _).trans (((cell_far (p := ⟨g7, _, none⟩) (by exact Nat.ne_of_lt (Nat.lt_of_lt_of_le (by have := bl9 _ _ hw155_1; exact this) GW170.out)) _).trans (((cell_far (p := ⟨g7, _, none⟩) (by exact Nat.ne_of_lt (Nat.lt_of_lt_of_le (by have := bl9 _ _ hw155_1; exact this) GW170.out)) _).trans (hh.2.2.2.2.2.2.2.1)))))))))))), ((cell_far (p := ⟨g7, _, none⟩) (by exact Nat.ne_of_lt (Nat.lt_of_lt_of_le (by have := bl9 _ _ hw155_2; exact this) GW170.out)) _).trans (((cell_far (p := ⟨g7, _, none⟩) (by exact Nat.ne_of_lt (Nat.lt_of_lt_of_le (by have := bl9 _ _ hw155_2; exact this) GW170.out)) _).trans (((cell_far (p := ⟨g7, _, none⟩) (by exact Nat.ne_of_lt (Nat.lt_of_lt_of_le (by have := bl9 _ _ hw155_2; exact this) GW170.out)) _).trans (((cell_far (p := ⟨g7, _, none⟩) (by exact Nat.ne_of_lt (Nat.lt_of_lt_of_le (by have := bl9 _ _ hw155_2; exact this) GW170.out)) _).trans (((cell_far (p := ⟨g7, _, none⟩) (by exact Nat.ne_of_lt (Nat.lt_of_lt_of_le (by have := bl9 _ _ hw155_2; exact this) GW170.out)) _).trans (((cell_far (p := ⟨g7, _, none⟩) (by exact Nat.ne_of_lt (Nat.lt_of_lt_of_le (by have := bl9 _ _ hw155_2; exact this) GW170.out)) _).trans (hh.2.2.2.2.2.2.2.2.1)))))))))))), ((cell_far (p := ⟨g7, _, none⟩) (by exact Nat.ne_of_lt (Nat.lt_of_lt_of_le (by have := bl9 _ _ hw155_3; exact this) GW170.out)) _).trans (((cell_far (p := ⟨g7, _, none⟩) (by exact Nat.ne_of_lt (Nat.lt_of_lt_of_le (by have := bl9 _ _ hw155_3; exact this) GW170.out)) _).trans (((cell_far (p := ⟨g7, _, none⟩) (by exact Nat.ne_of_lt (Nat.lt_of_lt_of_le (by have := bl9 _ _ hw155_3; exact this) GW170.out)) _).trans (((cell_far (p := ⟨g7, _, none⟩) (by exact Nat.ne_of_lt (Nat.lt_of_lt_of_le (by have := bl9 _ _ hw155_3; exact this) GW170.out)) _).trans (((cell_far (p := ⟨g7, _, none⟩) (by exact Nat.ne_of_lt (Nat.lt_of_lt_of_le (by have := bl9 _ _ hw155_3; exact this) GW170.out)) _).trans (((cell_far (p := ⟨g7, _, none⟩) (by exact Nat.ne_of_lt (Nat.lt_of_lt_of_le (by have := bl9 _ _ hw155_3; exact this) GW170.out)) _).trans (hh.2.2.2.2.2.2.2.2.2.1)))))))))))), ((cell_far (p := ⟨g7, _, none⟩) (by exact Nat.ne_of_lt (Nat.lt_of_lt_of_le (by have := bl9 _ _ hw155_4; exact this) GW170.out)) _).trans (((cell_far (p := ⟨g7, _, none⟩) (by exact Nat.ne_of_lt (Nat.lt_of_lt_of_le (by have := bl9 _ _ hw155_4; exact this) GW170.out)) _).trans (((cell_far (p := ⟨g7, _, none⟩) (by exact Nat.ne_of_lt (Nat.lt_of_lt_of_le (by have := bl9 _ _ hw155_4; exact this) GW170.out)) _).trans (((cell_far (p := ⟨g7, _, none⟩) (by exact Nat.ne_of_lt (Nat.lt_of_lt_of_le (by have := bl9 _ _ hw155_4; exact this) GW170.out)) _).trans (((cell_far (p := ⟨g7, _, none⟩) (by exact Nat.ne_of_lt (Nat.lt_of_lt_of_le (by have := bl9 _ _ hw155_4; exact this) GW170.out)) _).trans (((cell_far (p := ⟨g7, _, none⟩) (by exact Nat.ne_of_lt (Nat.lt_of_lt_of_le (by have := bl9 _ _ hw155_4; exact this) GW170.out)) _).trans (hh.2.2.2.2.2.2.2.2.2.2.1)))))))))))), ((cell_far (p := ⟨g7, _, none⟩) (by exact Nat.ne_of_lt (Nat.lt_of_lt_of_le (by have := bl9 _ _ hw155_5; exact this) GW170.out)) _).trans (((cell_far (p := ⟨g7, _, none⟩) (by exact Nat.ne_of_lt (Nat.lt_of_lt_of_le (by have := bl9 _ _ hw155_5; exact this) GW170.out)) _).trans (((cell_far (p := ⟨g7, _, none⟩) (by exact Nat.ne_of_lt (Nat.lt_of_lt_of_le (by have := bl9 _ _ hw155_5; exact this) GW170.out)) _).trans (((cell_far (p := ⟨g7, _, none⟩) (by exact Nat.ne_of_lt (Nat.lt_of_lt_of_le (by have := bl9 _ _ hw155_5; exact this) GW170.out)) _).trans (((cell_far (p := ⟨g7, _, none⟩) (by exact Nat.ne_of_lt (Nat.lt_of_lt_of_le (by have := bl9 _ _ hw155_5; exact this) GW170.out)) _).trans (((cell_far (p := ⟨g7, _, none⟩) (by exact Nat.ne_of_lt (Nat.lt_of_lt_of_le (by have := bl9 _ _ hw155_5; exact this) GW170.out)) _).trans (hh.2.2.2.2.2.2.2.2.2.2.2))))))))))))⟩ (fun hh => ?_)
                 clear hK K
                 refine pure_ (i := 18) (N := some 13) (v := ?_) (a' := ?_) #[true, true, true, true, true, true, true, true, true, true, true, true, true, true, true, true, true, true, true] rfl rfl (any_of HT_.out (by kernel_rfl)) (fun _ _ _ h => h) (Or.inl ⟨by rfl, ?_⟩) ?_ ?_
                 rotate_left
                 ·intro w'
                  go_simp
                  with_reducible rfl
                 rotate_left
                 ·simp only [Act.put, List.setIfInBounds_toArray, List.set_cons_zero, List.set_cons_succ, i64_w, i32_w]
                  rfl
                 refine done_ (done_of HT_.out (by kernel_rfl)) ?_
                 obtain ⟨Ao50, co50, eo50⟩ := Kd.R_slice HO158.out
                 subst eo50
                 try go_wp2_with (((with_reducible refine gate_builtin (b := .append) (xs := #[.tmp 89, .tmp 90]) rfl ?_); at_builtin; refine Kd.R_append_rows k42 (w0 := w) w.heap.size rfl (.tmp 89) (.tmp 90) 25 42 (.agg #[(.int .i64 0), (.int .i64 0)]) 16 rfl Try.underlying25 info42 rfl (by decide) (by omega) u7 x7_20 t156 _ _ _ (fun k_ => (w.heap.size ≤ k_) ∧ some k_ ≠ (.slice Ao50 t156.length co50 : Value).ownBlock) (fun _ => False) rfl rfl ?aO ?aR (fun _ _ h => h) (fun _ h => h.elim) ?aF ?aB ?aS ?aL ?_; (case aR => refine (Kd.R_reads' (e := 42) (base := w.heap.size) (ok := fun k_ => ((w.heap.size ≤ k_) ∧ some k_ ≠ (u7 : Value).ownBlock)) (n := t156.length) (c := co50) ?_).2.2; exact (by exact (Kd.R_mono (Kd.R_far (p := ⟨g7, 5, none⟩) (Kd.R_far (p := ⟨g7, 4, none⟩) (Kd.R_far (p := ⟨g7, 3, none⟩) (Kd.R_far (p := ⟨g7, 2, none⟩) (Kd.R_far (p := ⟨g7, 1, none⟩) (Kd.R_far (p := ⟨g7, 0, none⟩) (Kd.R_types HO158.out BK170.out (by decide)) (fun _ hk => hk.2) (.int .i64 t159)) (fun _ hk => hk.2) (.string t160)) (fun _ hk => hk.2) (.int .i64 t161)) (fun _ hk => hk.2) (.int .i64 t162)) (fun _ hk => hk.2) (.slice Ao45 t163.length co45)) (fun _ hk => hk.2) (.slice Ao47 t166.length co47)) (fun _ h_ => h_.1)))); (case aB => exact (by repeat ((with_reducible first | exact HB.out | refine below_set ?_ GE170.out)))); (case aF => exact (fun k_ hk => ⟨(Nat.le_trans (below_size (by repeat ((with_reducible first | exact HB.out | refine below_set ?_ GE170.out)))) hk), Kd.fresh' (Kd.R_lt (by exact (Kd.R_mono (Kd.R_far (p := ⟨g7, 5, none⟩) (Kd.R_far (p := ⟨g7, 4, none⟩) (Kd.R_far (p := ⟨g7, 3, none⟩) (Kd.R_far (p := ⟨g7, 2, none⟩) (Kd.R_far (p := ⟨g7, 1, none⟩) (Kd.R_far (p := ⟨g7, 0, none⟩) (Kd.R_types HO158.out BK170.out (by decide)) (fun _ hk => hk.2) (.int .i64 t159)) (fun _ hk => hk.2) (.string t160)) (fun _ hk => hk.2) (.int .i64 t161)) (fun _ hk => hk.2) (.int .i64 t162)) (fun _ hk => hk.2) (.slice Ao45 t163.length co45)) (fun _ hk => hk.2) (.slice Ao47 t166.length co47)) (fun _ h_ => h_.1)))) k_ hk⟩)); (case aO => exact (by exact Kd.R_mono (Kd.R_far (p := ⟨g7, 5, none⟩) (Kd.R_far (p := ⟨g7, 4, none⟩) (Kd.R_far (p := ⟨g7, 3, none⟩) (Kd.R_far (p := ⟨g7, 2, none⟩) (Kd.R_far (p := ⟨g7, 1, none⟩) (Kd.R_far (p := ⟨g7, 0, none⟩) (Kd.R_types HO_7.out BK170.out (by decide)) (fun _ hk => hk.2) (.int .i64 t159)) (fun _ hk => hk.2) (.string t160)) (fun _ hk => hk.2) (.int .i64 t161)) (fun _ hk => hk.2) (.int .i64 t162)) (fun _ hk => hk.2) (.slice Ao45 t163.length co45)) (fun _ hk => hk.2) (.slice Ao47 t166.length co47)) (fun _ hk => ⟨hk.1.1, hk.1.2⟩))); (case aS => exact (below_size (by repeat ((with_reducible first | exact HB.out | refine below_set ?_ GE170.out))))); (case aL => have := LMc36.out; omega); intro v172 w49 ho hb hg hat; rw [← Ny171.out] at ho; have n0_ := am9 (Kd.N_afterv (ok := (fun k_ => (P0_ k_ ∨ w.heap.size ≤ k_) ∧ some k_ ≠ (.slice Ao50 t156.length co50 : Value).ownBlock ∧ k_ ≠ g3 ∧ k_ ≠ g7)) (by exact Kd.N_mono (Kd.N_far (p := ⟨g7, 5, none⟩) (Kd.N_far (p := ⟨g7, 4, none⟩) (Kd.N_far (p := ⟨g7, 3, none⟩) (Kd.N_far (p := ⟨g7, 2, none⟩) (Kd.N_far (p := ⟨g7, 1, none⟩) (Kd.N_far (p := ⟨g7, 0, none⟩) (Kd.N_mono HO_8.out (fun k_ hk => (⟨hk, hk.2.2.2.2⟩ : _ ∧ k_ ≠ g7))) (fun _ hk => hk.2) (.int .i64 t159)) (fun _ hk => hk.2) (.string t160)) (fun _ hk => hk.2) (.int .i64 t161)) (fun _ hk => hk.2) (.int .i64 t162)) (fun _ hk => hk.2) (.slice Ao45 t163.length co45)) (fun _ hk => hk.2) (.slice Ao47 t166.length co47)) (fun _ hk => ⟨⟨hk.1.1, ⟨hk.1.2.1, ⟨hk.1.2.2.2.1, hk.1.2.2.2.2⟩⟩⟩, hk.1.2.2.1⟩)) hg hat); have n1_ := am9 (blk_grown (g := g3) (o := .cells #[.int .i64 x139000_1, .string x139001_1, .int .i64 x139002_1, .int .i64 x139003_1, .slice none 0 0, .slice none 0 0] 33 (0, 0)) (by refine blk_far ?_ NB138_170.out _; refine blk_far ?_ NB138_170.out _; refine blk_far ?_ NB138_170.out _; refine blk_far ?_ NB138_170.out _; refine blk_far ?_ NB138_170.out _; refine blk_far ?_ NB138_170.out _; exact BK138.out) hg (Kd.R_ne HO_7.out BK138.out (by decide))); have n2_ := am9 (Kd.V_afterv (ok := (fun k_ => (P0_ k_ ∨ w.heap.size ≤ k_) ∧ some k_ ≠ (.slice (some ad142) t139.length co22 : Value).ownBlock ∧ some k_ ≠ (.slice Ao50 t156.length co50 : Value).ownBlock ∧ k_ ≠ g3 ∧ k_ ≠ g7)) (by exact Kd.V_mono (Kd.V_far (p := ⟨g7, 5, none⟩) (Kd.V_far (p := ⟨g7, 4, none⟩) (Kd.V_far (p := ⟨g7, 3, none⟩) (Kd.V_far (p := ⟨g7, 2, none⟩) (Kd.V_far (p := ⟨g7, 1, none⟩) (Kd.V_far (p := ⟨g7, 0, none⟩) (Kd.V_mono HL153_4.out (fun k_ hk => (⟨hk, hk.2.2.2.2.2⟩ : _ ∧ k_ ≠ g7))) (fun _ hk => hk.2) (.int .i64 t159)) (fun _ hk => hk.2) (.string t160)) (fun _ hk => hk.2) (.int .i64 t161)) (fun _ hk => hk.2) (.int .i64 t162)) (fun _ hk => hk.2) (.slice Ao45 t163.length co45)) (fun _ hk => hk.2) (.slice Ao47 t166.length co47)) (fun _ hk => ⟨⟨hk.1.1, ⟨hk.1.2.2.2.1, ⟨hk.1.2.1, ⟨hk.1.2.2.2.2.1, hk.1.2.2.2.2.2⟩⟩⟩⟩, hk.1.2.2.1⟩)) hg hat); have n3_ := am9 (Kd.V_afterv (ok := (fun k_ => (P0_ k_ ∨ w.heap.size ≤ k_) ∧ some k_ ≠ (.slice (some ad142) t139.length co22 : Value).ownBlock ∧ some k_ ≠ (.slice Ao50 t156.length co50 : Value).ownBlock ∧ k_ ≠ g3 ∧ k_ ≠ g7)) (by exact Kd.V_mono (Kd.V_far (p := ⟨g7, 5, none⟩) (Kd.V_far (p := ⟨g7, 4, none⟩) (Kd.V_far (p := ⟨g7, 3, none⟩) (Kd.V_far (p := ⟨g7, 2, none⟩) (Kd.V_far (p := ⟨g7, 1, none⟩) (Kd.V_far (p := ⟨g7, 0, none⟩) (Kd.V_mono HL153_5.out (fun k_ hk => (⟨hk, hk.2.2.2.2.2⟩ : _ ∧ k_ ≠ g7))) (fun _ hk => hk.2) (.int .i64 t159)) (fun _ hk => hk.2) (.string t160)) (fun _ hk => hk.2) (.int .i64 t161)) (fun _ hk => hk.2) (.int .i64 t162)) (fun _ hk => hk.2) (.slice Ao45 t163.length co45)) (fun _ hk => hk.2) (.slice Ao47 t166.length co47)) (fun _ hk => ⟨⟨hk.1.1, ⟨hk.1.2.2.2.1, ⟨hk.1.2.1, ⟨hk.1.2.2.2.2.1, hk.1.2.2.2.2.2⟩⟩⟩⟩, hk.1.2.2.1⟩)) hg hat); have n4_ := am9 (Kd.V_afterv (ok := (fun k_ => (P0_ k_ ∨ w.heap.size ≤ k_) ∧ some k_ ≠ (.slice (some ad142) t139.length co22 : Value).ownBlock ∧ some k_ ≠ (.slice Ao50 t156.length co50 : Value).ownBlock ∧ k_ ≠ g3 ∧ k_ ≠ g7)) (by exact Kd.V_mono (Kd.V_far (p := ⟨g7, 5, none⟩) (Kd.V_far (p := ⟨g7, 4, none⟩) (Kd.V_far (p := ⟨g7, 3, none⟩) (Kd.V_far (p := ⟨g7, 2, none⟩) (Kd.V_far (p := ⟨g7, 1, none⟩) (Kd.V_far (p := ⟨g7, 0, none⟩) (Kd.V_mono HL154_4.out (fun k_ hk => (⟨hk, hk.2.2.2.2.2⟩ : _ ∧ k_ ≠ g7))) (fun _ hk => hk.2) (.int .i64 t159)) (fun _ hk => hk.2) (.string t160)) (fun _ hk => hk.2) (.int .i64 t161)) (fun _ hk => hk.2) (.int .i64 t162)) (fun _ hk => hk.2) (.slice Ao45 t163.length co45)) (fun _ hk => hk.2) (.slice Ao47 t166.length co47)) (fun _ hk => ⟨⟨hk.1.1, ⟨hk.1.2.2.2.1, ⟨hk.1.2.1, ⟨hk.1.2.2.2.2.1, hk.1.2.2.2.2.2⟩⟩⟩⟩, hk.1.2.2.1⟩)) hg hat); have n5_ := am9 (Kd.V_afterv (ok := (fun k_ => (P0_ k_ ∨ w.heap.size ≤ k_) ∧ some k_ ≠ (.slice (some ad142) t139.length co22 : Value).ownBlock ∧ some k_ ≠ (.slice Ao50 t156.length co50 : Value).ownBlock ∧ k_ ≠ g3 ∧ k_ ≠ g7)) (by exact Kd.V_mono (Kd.V_far (p := ⟨g7, 5, none⟩) (Kd.V_far (p := ⟨g7, 4, none⟩) (Kd.V_far (p := ⟨g7, 3, none⟩) (Kd.V_far (p := ⟨g7, 2, none⟩) (Kd.V_far (p := ⟨g7, 1, none⟩) (Kd.V_far (p := ⟨g7, 0, none⟩) (Kd.V_mono HL154_5.out (fun k_ hk => (⟨hk, hk.2.2.2.2.2⟩ : _ ∧ k_ ≠ g7))) (fun _ hk => hk.2) (.int .i64 t159)) (fun _ hk => hk.2) (.string t160)) (fun _ hk => hk.2) (.int .i64 t161)) (fun _ hk => hk.2) (.int .i64 t162)) (fun _ hk => hk.2) (.slice Ao45 t163.length co45)) (fun _ hk => hk.2) (.slice Ao47 t166.length co47)) (fun _ hk => ⟨⟨hk.1.1, ⟨hk.1.2.2.2.1, ⟨hk.1.2.1, ⟨hk.1.2.2.2.2.1, hk.1.2.2.2.2.2⟩⟩⟩⟩, hk.1.2.2.1⟩)) hg hat); have n6_ := am9 (Kd.R_after (ok := (fun k_ => (w.heap.size ≤ k_))) (by exact Kd.R_mono (Kd.R_far (p := ⟨g7, 5, none⟩) (Kd.R_far (p := ⟨g7, 4, none⟩) (Kd.R_far (p := ⟨g7, 3, none⟩) (Kd.R_far (p := ⟨g7, 2, none⟩) (Kd.R_far (p := ⟨g7, 1, none⟩) (Kd.R_far (p := ⟨g7, 0, none⟩) (Kd.R_types HO158.out BK170.out (by decide)) (fun _ hk => hk.2) (.int .i64 t159)) (fun _ hk => hk.2) (.string t160)) (fun _ hk => hk.2) (.int .i64 t161)) (fun _ hk => hk.2) (.int .i64 t162)) (fun _ hk => hk.2) (.slice Ao45 t163.length co45)) (fun _ hk => hk.2) (.slice Ao47 t166.length co47)) (fun _ hk => ⟨hk.1.1, hk.1.2⟩)) hg hat); have n7_ := am9 (Kd.V_afterv (ok := (fun k_ => (P0_ k_ ∨ w.heap.size ≤ k_) ∧ some k_ ≠ (.slice (some ad142) t139.length co22 : Value).ownBlock ∧ some k_ ≠ (.slice Ao50 t156.length co50 : Value).ownBlock ∧ k_ ≠ g3 ∧ k_ ≠ g7)) (by exact Kd.V_mono (Kd.V_far (p := ⟨g7, 5, none⟩) (Kd.V_far (p := ⟨g7, 4, none⟩) (Kd.V_far (p := ⟨g7, 3, none⟩) (Kd.V_far (p := ⟨g7, 2, none⟩) (Kd.V_far (p := ⟨g7, 1, none⟩) (Kd.V_far (p := ⟨g7, 0, none⟩) (Kd.V_mono HO165.out (fun k_ hk => (⟨hk, hk.2.2.2.2.2⟩ : _ ∧ k_ ≠ g7))) (fun _ hk => hk.2) (.int .i64 t159)) (fun _ hk => hk.2) (.string t160)) (fun _ hk => hk.2) (.int .i64 t161)) (fun _ hk => hk.2) (.int .i64 t162)) (fun _ hk => hk.2) (.slice Ao45 t163.length co45)) (fun _ hk => hk.2) (.slice Ao47 t166.length co47)) (fun _ hk => ⟨⟨hk.1.1, ⟨hk.1.2.2.2.1, ⟨hk.1.2.1, ⟨hk.1.2.2.2.2.1, hk.1.2.2.2.2.2⟩⟩⟩⟩, hk.1.2.2.1⟩)) hg hat); have n8_ := am9 (Kd.V_afterv (ok := (fun k_ => (P0_ k_ ∨ w.heap.size ≤ k_) ∧ some k_ ≠ (.slice (some ad142) t139.length co22 : Value).ownBlock ∧ some k_ ≠ (.slice Ao50 t156.length co50 : Value).ownBlock ∧ k_ ≠ g3 ∧ k_ ≠ g7)) (by exact Kd.V_mono (Kd.V_far (p := ⟨g7, 5, none⟩) (Kd.V_far (p := ⟨g7, 4, none⟩) (Kd.V_far (p := ⟨g7, 3, none⟩) (Kd.V_far (p := ⟨g7, 2, none⟩) (Kd.V_far (p := ⟨g7, 1, none⟩) (Kd.V_far (p := ⟨g7, 0, none⟩) (Kd.V_mono HO168.out (fun k_ hk => (⟨hk, hk.2.2.2.2.2⟩ : _ ∧ k_ ≠ g7))) (fun _ hk => hk.2) (.int .i64 t159)) (fun _ hk => hk.2) (.string t160)) (fun _ hk => hk.2) (.int .i64 t161)) (fun _ hk => hk.2) (.int .i64 t162)) (fun _ hk => hk.2) (.slice Ao45 t163.length co45)) (fun _ hk => hk.2) (.slice Ao47 t166.length co47)) (fun _ hk => ⟨⟨hk.1.1, ⟨hk.1.2.2.2.1, ⟨hk.1.2.1, ⟨hk.1.2.2.2.2.1, hk.1.2.2.2.2.2⟩⟩⟩⟩, hk.1.2.2.1⟩)) hg hat); have n9_ := am9 (blk_grown (g := g7) (o := .cells #[.int .i64 t159, .string t160, .int .i64 t161, .int .i64 t162, .slice Ao45 t163.length co45, .slice Ao47 t166.length co47] 33 (0, 0)) (by refine blk_put (cs := #[.int .i64 t159, .string t160, .int .i64 t161, .int .i64 t162, .slice Ao45 t163.length co45, .slice none 0 0]) ?_ 5 _ rfl; refine blk_put (cs := #[.int .i64 t159, .string t160, .int .i64 t161, .int .i64 t162, .slice none 0 0, .slice none 0 0]) ?_ 4 _ rfl; refine blk_put (cs := #[.int .i64 t159, .string t160, .int .i64 t161, .int .i64 0, .slice none 0 0, .slice none 0 0]) ?_ 3 _ rfl; refine blk_put (cs := #[.int .i64 t159, .string t160, .int .i64 0, .int .i64 0, .slice none 0 0, .slice none 0 0]) ?_ 2 _ rfl; refine blk_put (cs := #[.int .i64 t159, .string (⟨#[]⟩ : ByteArray), .int .i64 0, .int .i64 0, .slice none 0 0, .slice none 0 0]) ?_ 1 _ rfl; refine blk_put (cs := #[.int .i64 0, .string (⟨#[]⟩ : ByteArray), .int .i64 0, .int .i64 0, .slice none 0 0, .slice none 0 0]) ?_ 0 _ rfl; exact BK170.out) hg (Kd.R_ne HO_7.out BK170.out (by decide))); have n10_ := am9 (hb); have n11_ := am9 (ho); clear HO_8; clear BK138; clear HL153_4; clear HL153_5; clear HL154_4; clear HL154_5; clear HO158; clear HO165; clear HO168; clear BK170; clear HB; clear HO_7; have HO_8 := n0_; have BK138 := n1_; have HL153_4 := n2_; have HL153_5 := n3_; have HL154_4 := n4_; have HL154_5 := n5_; have HO158 := n6_; have HO165 := n7_; have HO168 := n8_; have BK170 := n9_; have HB := n10_; have HO173 := n11_; clear n0_ n1_ n2_ n3_ n4_ n5_ n6_ n7_ n8_ n9_ n10_ n11_; clear ho hb hg hat))
                 go_roundg kj20
                 case measure => have := HK1.out; have := HJ20.out; omega
                 case rel => exact ⟨(y171), (wrap64 (x9_1 + 1)), (x139000_1), (x139001_1), (x139002_1), (x139003_1), (by rfl), H', ⟨by have := HK1.out; have := HJ20.out; omega⟩, ⟨by exact Kd.R_mono HO173.out (fun _ hk => hk.1)⟩, ⟨by exact Kd.N_mono HO_8.out (fun _ hk => ⟨hk.1.1, ⟨hk.2, hk.1.2.2.1⟩⟩)⟩, ⟨by exact BK138.out⟩, ⟨by repeat (with_reducible exact HB.out)⟩⟩
                ·rw [if_neg c36] at H
                 exact absurd H (by simp)
               ·replace c35 := Bool.eq_false_iff.mpr c35
                subst c35
                have H1 : (some (([] : List (S42)), t159, t160, t161, t162, t163, t166, false)) = some (r1, r2, r3, r4, r5, r6, r7, r8) := by rw [if_neg (show ¬ (false = true) by decide)] at H; exact H
                clear H
                have H := H1
                clear H1
                simp only [Option.some.injEq, Prod.mk.injEq] at H
                obtain ⟨rfl, rfl, rfl, rfl, rfl, rfl, rfl, rfl⟩ := H
                have p153 : 0 ≤ (x9_1 : Int) := of_decide_eq_true (by with_reducible assumption)
                have q153 : x9_1 < (t139.length : Int) := of_decide_eq_true (by with_reducible assumption)
                obtain ⟨ad153, A153_4, c153_4, A153_5, c153_5, e153, hx153_0, hx153_1, hx153_2, hx153_3, hx153_4, hx153_5, hl153_4, hi153_4, hl153_5, hi153_5⟩ := at_T33 (Kd.N_reads' HO_8.out).2.2 x9_1 p153 q153
                obtain rfl : ad142 = ad153 := (by injection e153)
                obtain ⟨ce153, hce153, hMe153, hcc153⟩ := Kd.N_get HO_8.out z33 x9_1 p153 (by exact q153)
                obtain ⟨ua153_4, uc153_4, ua153_5, uc153_5, rfl, ul153_4, ge153_4, ul153_5, ge153_5⟩ := k33_openF hMe153
                have hv153_4 := hcc153 4 _ rfl
                rw [add_field _ _ 4 (by omega)] at hv153_4
                replace hv153_4 := Option.some.inj (hv153_4.symm.trans hx153_4)
                injection hv153_4 with hva_ hvn_ hvc_
                rw [hva_] at ge153_4
                rw [hvc_] at ul153_4
                have HL153_4 := am9 (show Kd.V k33 33 _ w.heap.size _ _ ((rd_T33 t139 x9_1).f4) from Kd.V_mk ul153_4 ge153_4)
                clear hva_ hvn_ hvc_ ge153_4 ul153_4
                have hv153_5 := hcc153 5 _ rfl
                rw [add_field _ _ 5 (by omega)] at hv153_5
                replace hv153_5 := Option.some.inj (hv153_5.symm.trans hx153_5)
                injection hv153_5 with hva_ hvn_ hvc_
                rw [hva_] at ge153_5
                rw [hvc_] at ul153_5
                have HL153_5 := am9 (show Kd.V k33 33 _ w.heap.size _ _ ((rd_T33 t139 x9_1).f5) from Kd.V_mk ul153_5 ge153_5)
                clear hva_ hvn_ hvc_ ge153_5 ul153_5
                clear hcc153 hce153
                have HR153_4 := am9 hi153_4
                have HC153_4 := am9 hl153_4
                clear hi153_4 hl153_4
                have HR153_5 := am9 hi153_5
                have HC153_5 := am9 hl153_5
                clear hi153_5 hl153_5
                replace p153 := eq_true p153
                replace q153 := eq_true q153
                try go_wp2
                have n0_ := am9 (Kd.R_drew HO_7.out)
                have n1_ := am9 (Kd.N_drew HO_8.out)
                have n2_ := am9 (Kd.V_drew HL153_4.out)
                have n3_ := am9 (Kd.V_drew HL153_5.out)
                have n4_ := am9 (blk_drew BK138.out)
                have n5_ := am9 (Kd.C_drew HR153_4.out)
                have n6_ := am9 (Kd.C_drew HR153_5.out)
                have n7_ := am9 (below_drew1 HB.out)
                clear HO_7
                clear HO_8
                clear HL153_4
                clear HL153_5
                clear BK138
                clear HR153_4
                clear HR153_5
                clear HB
                have HO_7 := n0_
                have HO_8 := n1_
                have HL153_4 := n2_
                have HL153_5 := n3_
                have BK138 := n4_
                have HR153_4 := n5_
                have HR153_5 := n6_
                have HB := n7_
                clear n0_ n1_ n2_ n3_ n4_ n5_ n6_ n7_
                have p154 : 0 ≤ (x9_1 : Int) := of_decide_eq_true (by with_reducible assumption)
                have q154 : x9_1 < (t139.length : Int) := of_decide_eq_true (by with_reducible assumption)
                obtain ⟨ad154, A154_4, c154_4, A154_5, c154_5, e154, hx154_0, hx154_1, hx154_2, hx154_3, hx154_4, hx154_5, hl154_4, hi154_4, hl154_5, hi154_5⟩ := at_T33 (Kd.N_reads' HO_8.out).2.2 x9_1 p154 q154
                obtain rfl : ad142 = ad154 := (by injection e154)
                obtain ⟨ce154, hce154, hMe154, hcc154⟩ := Kd.N_get HO_8.out z33 x9_1 p154 (by exact q154)
                obtain ⟨ua154_4, uc154_4, ua154_5, uc154_5, rfl, ul154_4, ge154_4, ul154_5, ge154_5⟩ := k33_openF hMe154
                have hv154_4 := hcc154 4 _ rfl
                rw [add_field _ _ 4 (by omega)] at hv154_4
                replace hv154_4 := Option.some.inj (hv154_4.symm.trans hx154_4)
                injection hv154_4 with hva_ hvn_ hvc_
                rw [hva_] at ge154_4
                rw [hvc_] at ul154_4
                have HL154_4 := am9 (show Kd.V k33 33 _ w.heap.size _ _ ((rd_T33 t139 x9_1).f4) from Kd.V_mk ul154_4 ge154_4)
                clear hva_ hvn_ hvc_ ge154_4 ul154_4
                have hv154_5 := hcc154 5 _ rfl
                rw [add_field _ _ 5 (by omega)] at hv154_5
                replace hv154_5 := Option.some.inj (hv154_5.symm.trans hx154_5)
                injection hv154_5 with hva_ hvn_ hvc_
                rw [hva_] at ge154_5
                rw [hvc_] at ul154_5
                have HL154_5 := am9 (show Kd.V k33 33 _ w.heap.size _ _ ((rd_T33 t139 x9_1).f5) from Kd.V_mk ul154_5 ge154_5)
                clear hva_ hvn_ hvc_ ge154_5 ul154_5
                clear hcc154 hce154
                have HR154_4 := am9 hi154_4
                have HC154_4 := am9 hl154_4
                clear hi154_4 hl154_4
                have HR154_5 := am9 hi154_5
                have HC154_5 := am9 hl154_5
                clear hi154_5 hl154_5
                replace p154 := eq_true p154
                replace q154 := eq_true q154
                have p155 : 0 ≤ (t144 : Int) := of_decide_eq_true (by with_reducible assumption)
                have q155 : t144 < (l1.length : Int) := of_decide_eq_true (by with_reducible assumption)
                obtain ⟨ad155, A155_4, c155_4, A155_5, c155_5, e155, hx155_0, hx155_1, hx155_2, hx155_3, hx155_4, hx155_5, hl155_4, hi155_4, hl155_5, hi155_5⟩ := at_T33 HR1.out t144 p155 q155
                have hw155_5 := hx155_5
                have hw155_4 := hx155_4
                have hw155_3 := hx155_3
                have hw155_2 := hx155_2
                have hw155_1 := hx155_1
                have hw155_0 := hx155_0
                obtain rfl : ad147 = ad155 := (by injection e155)
                replace hx155_0 := (HB.out.cell (bl9 w _ hx155_0)).trans hx155_0
                replace hx155_1 := (HB.out.cell (bl9 w _ hx155_1)).trans hx155_1
                replace hx155_2 := (HB.out.cell (bl9 w _ hx155_2)).trans hx155_2
                replace hx155_3 := (HB.out.cell (bl9 w _ hx155_3)).trans hx155_3
                replace hx155_4 := (HB.out.cell (bl9 w _ hx155_4)).trans hx155_4
                replace hx155_5 := (HB.out.cell (bl9 w _ hx155_5)).trans hx155_5
                have HR155_4 := am9 hi155_4
                have HC155_4 := am9 hl155_4
                clear hi155_4 hl155_4
                have HR155_5 := am9 hi155_5
                have HC155_5 := am9 hl155_5
                clear hi155_5 hl155_5
                replace p155 := eq_true p155
                replace q155 := eq_true q155
                refine start_ (n := 19) (S := fun w' => w'.cell? (ad142.add ((x9_1).toNat * 6)) = some (.int .i64 ((rd_T33 t139 x9_1).f0)) ∧ w'.cell? ⟨(ad142.add ((x9_1).toNat * 6)).block, (ad142.add ((x9_1).toNat * 6)).off + 1, none⟩ = some (.string ((rd_T33 t139 x9_1).f1)) ∧ w'.cell? ⟨(ad142.add ((x9_1).toNat * 6)).block, (ad142.add ((x9_1).toNat * 6)).off + 2, none⟩ = some (.int .i64 ((rd_T33 t139 x9_1).f2)) ∧ w'.cell? ⟨(ad142.add ((x9_1).toNat * 6)).block, (ad142.add ((x9_1).toNat * 6)).off + 3, none⟩ = some (.int .i64 ((rd_T33 t139 x9_1).f3)) ∧ w'.cell? ⟨(ad142.add ((x9_1).toNat * 6)).block, (ad142.add ((x9_1).toNat * 6)).off + 4, none⟩ = some (.slice A154_4 ((rd_T33 t139 x9_1).f4).length c154_4) ∧ w'.cell? ⟨(ad142.add ((x9_1).toNat * 6)).block, (ad142.add ((x9_1).toNat * 6)).off + 5, none⟩ = some (.slice A154_5 ((rd_T33 t139 x9_1).f5).length c154_5) ∧ w'.cell? (ad147.add ((t144).toNat * 6)) = some (.int .i64 ((rd_T33 l1 t144).f0)) ∧ w'.cell? ⟨(ad147.add ((t144).toNat * 6)).block, (ad147.add ((t144).toNat * 6)).off + 1, none⟩ = some (.string ((rd_T33 l1 t144).f1)) ∧ w'.cell? ⟨(ad147.add ((t144).toNat * 6)).block, (ad147.add ((t144).toNat * 6)).off + 2, none⟩ = some (.int .i64 ((rd_T33 l1 t144).f2)) ∧ w'.cell? ⟨(ad147.add ((t144).toNat * 6)).block, (ad147.add ((t144).toNat * 6)).off + 3, none⟩ = some (.int .i64 ((rd_T33 l1 t144).f3)) ∧ w'.cell? ⟨(ad147.add ((t144).toNat * 6)).block, (ad147.add ((t144).toNat * 6)).off + 4, none⟩ = some (.slice A155_4 ((rd_T33 l1 t144).f4).length c155_4) ∧ w'.cell? ⟨(ad147.add ((t144).toNat * 6)).block, (ad147.add ((t144).toNat * 6)).off + 5, none⟩ = some (.slice A155_5 ((rd_T33 l1 t144).f5).length c155_5)) (ds := []) #[false, false, false, false, false, false, false, false, false, false, false, false, false, false, false, false, false, false, false] (by kernel_rfl) rfl rfl ⟨hx154_0, hx154_1, hx154_2, hx154_3, hx154_4, hx154_5, ((HB.out.cell (bl9 w _ hw155_0)).trans hw155_0), ((HB.out.cell (bl9 w _ hw155_1)).trans hw155_1), ((HB.out.cell (bl9 w _ hw155_2)).trans hw155_2), ((HB.out.cell (bl9 w _ hw155_3)).trans hw155_3), ((HB.out.cell (bl9 w _ hw155_4)).trans hw155_4), ((HB.out.cell (bl9 w _ hw155_5)).trans hw155_5)⟩ (fun hh => ?_); refine with_tabW orielref12_Match.tab12 orielref12_Match.bits12 (fun HT_ HW_ => ?_)
                generalize wc.drew = w51 at HO_7 HO_8 HL153_4 HL153_5 BK138 HR153_4 HR153_5 HB HL154_4 HL154_5 HR154_4 HR154_5 HR155_4 HR155_5 hx154_0 hx154_1 hx154_2 hx154_3 hx154_4 hx154_5 hx155_0 hx155_1 hx155_2 hx155_3 hx155_4 hx155_5 hh ⊢
                refine pure_ (i := 0) (N := some 72) (v := ?_) (a' := ?_) #[true, false, false, false, false, false, false, false, false, false, false, false, false, false, false, false, false, false, false] rfl rfl (any_of HT_.out (by kernel_rfl)) (fun _ _ _ h => h) (Or.inl ⟨by rfl, ?_⟩) ?_ ?_
                rotate_left
                ·intro w'
                 go_simp
                 with_reducible rfl
                rotate_left
                ·simp only [Act.put, List.setIfInBounds_toArray, List.set_cons_zero, List.set_cons_succ, i64_w, i32_w]
                 rfl
                refine pure_ (i := 1) (N := some 73) (v := ?_) (a' := ?_) #[true, true, false, false, false, false, false, false, false, false, false, false, false, false, false, false, false, false, false] rfl rfl (any_of HT_.out (by kernel_rfl)) (fun _ _ _ h => h) (Or.inl ⟨by rfl, ?_⟩) ?_ ?_
                rotate_left
                ·intro w'
                 go_simp
                 with_reducible rfl
                rotate_left
                ·simp only [Act.put, List.setIfInBounds_toArray, List.set_cons_zero, List.set_cons_succ, i64_w, i32_w]
                 rfl
                refine pure_ (i := 2) (N := some 74) (v := ?_) (a' := ?_) #[true, true, true, false, false, false, false, false, false, false, false, false, false, false, false, false, false, false, false] rfl rfl (any_of HT_.out (by kernel_rfl)) (fun _ _ _ h => h) (Or.inl ⟨by rfl, ?_⟩) ?_ ?_
                rotate_left
                ·intro w'
                 go_simp
                 with_reducible rfl
                rotate_left
                ·simp only [Act.put, List.setIfInBounds_toArray, List.set_cons_zero, List.set_cons_succ, i64_w, i32_w]
                 rfl
                refine pure_ (i := 3) (N := some 75) (v := ?_) (a' := ?_) #[true, true, true, true, false, false, false, false, false, false, false, false, false, false, false, false, false, false, false] rfl rfl (any_of HT_.out (by kernel_rfl)) (fun _ _ _ h => h) (Or.inl ⟨by rfl, ?_⟩) ?_ ?_
                rotate_left
                ·intro w'
                 go_simp
                 with_reducible rfl
                rotate_left
                ·simp only [Act.put, List.setIfInBounds_toArray, List.set_cons_zero, List.set_cons_succ, i64_w, i32_w]
                 rfl
                refine pure_ (i := 5) (N := some 77) (v := ?_) (a' := ?_) #[true, true, true, true, false, true, false, false, false, false, false, false, false, false, false, false, false, false, false] rfl rfl (any_of HT_.out (by kernel_rfl)) (fun _ _ _ h => h) (Or.inl ⟨by rfl, ?_⟩) ?_ ?_
                rotate_left
                ·intro w'
                 go_simp
                 with_reducible rfl
                rotate_left
                ·simp only [Act.put, List.setIfInBounds_toArray, List.set_cons_zero, List.set_cons_succ, i64_w, i32_w]
                 rfl
                refine pure_ (i := 6) (N := some 78) (v := ?_) (a' := ?_) #[true, true, true, true, false, true, true, false, false, false, false, false, false, false, false, false, false, false, false] rfl rfl (any_of HT_.out (by kernel_rfl)) (fun _ _ _ h => h) (Or.inl ⟨by rfl, ?_⟩) ?_ ?_
                rotate_left
                ·intro w'
                 go_simp
                 with_reducible rfl
                rotate_left
                ·simp only [Act.put, List.setIfInBounds_toArray, List.set_cons_zero, List.set_cons_succ, i64_w, i32_w]
                 rfl
                refine pure_ (i := 7) (N := some 79) (v := ?_) (a' := ?_) #[true, true, true, true, false, true, true, true, false, false, false, false, false, false, false, false, false, false, false] rfl rfl (any_of HT_.out (by kernel_rfl)) (fun _ _ _ h => h) (Or.inl ⟨by rfl, ?_⟩) ?_ ?_
                rotate_left
                ·intro w'
                 go_simp
                 with_reducible rfl
                rotate_left
                ·simp only [Act.put, List.setIfInBounds_toArray, List.set_cons_zero, List.set_cons_succ, i64_w, i32_w]
                 rfl
                refine pure_ (i := 8) (N := some 80) (v := ?_) (a' := ?_) #[true, true, true, true, false, true, true, true, true, false, false, false, false, false, false, false, false, false, false] rfl rfl (any_of HT_.out (by kernel_rfl)) (fun _ _ _ h => h) (Or.inl ⟨by rfl, ?_⟩) ?_ ?_
                rotate_left
                ·intro w'
                 go_simp
                 with_reducible rfl
                rotate_left
                ·simp only [Act.put, List.setIfInBounds_toArray, List.set_cons_zero, List.set_cons_succ, i64_w, i32_w]
                 rfl
                refine take_ (i := 4) (N := some 76) (v := ?_) (a' := ?_) #[true, true, true, true, true, true, true, true, true, false, false, false, false, false, false, false, false, false, false] rfl rfl (take_ofW HT_.out HW_.out (by kernel_rfl)) (fun _ _ _ h => h) (Or.inl ⟨by rfl, ?_⟩) hh ?_ ?_
                rotate_left
                ·rintro w' ⟨s0, s1, s2, s3, s4, s5, s6, s7, s8, s9, s10, s11⟩
                 go_simp
                 with_reducible rfl
                rotate_left
                ·simp only [Act.put, List.setIfInBounds_toArray, List.set_cons_zero, List.set_cons_succ, i64_w, i32_w]
                 rfl
                refine take_ (i := 9) (N := some 81) (v := ?_) (a' := ?_) #[true, true, true, true, true, true, true, true, true, true, false, false, false, false, false, false, false, false, false] rfl rfl (take_ofW HT_.out HW_.out (by kernel_rfl)) (fun _ _ _ h => h) (Or.inl ⟨by rfl, ?_⟩) hh ?_ ?_
                rotate_left
                ·rintro w' ⟨s0, s1, s2, s3, s4, s5, s6, s7, s8, s9, s10, s11⟩
                 go_simp
                 with_reducible rfl
                rotate_left
                ·simp only [Act.put, List.setIfInBounds_toArray, List.set_cons_zero, List.set_cons_succ, i64_w, i32_w]
                 rfl
                refine join_ (σ := Value × Value × Value × Nat) 3 #[true, true, true, true, true, true, true, true, true, true, true, true, true, true, true, true, false, false, false] (fun s_ => [(82, .tuple #[s_.1, .agg #[.int .i64 t159, .string t160, .int .i64 t161, .int .i64 t162, s_.2.1, s_.2.2.1], .bool false]), (12, .pointer (some ⟨s_.2.2.2, 0, none⟩)), (71, .tuple #[s_.1, .agg #[.int .i64 t159, .string t160, .int .i64 t161, .int .i64 t162, s_.2.1, s_.2.2.1], .bool false]), (83, s_.1), (84, .agg #[.int .i64 t159, .string t160, .int .i64 t161, .int .i64 t162, s_.2.1, s_.2.2.1]), (85, .bool false)]) (fun s_ w' => (w'.cell? (ad142.add ((x9_1).toNat * 6)) = some (.int .i64 ((rd_T33 t139 x9_1).f0)) ∧ w'.cell? ⟨(ad142.add ((x9_1).toNat * 6)).block, (ad142.add ((x9_1).toNat * 6)).off + 1, none⟩ = some (.string ((rd_T33 t139 x9_1).f1)) ∧ w'.cell? ⟨(ad142.add ((x9_1).toNat * 6)).block, (ad142.add ((x9_1).toNat * 6)).off + 2, none⟩ = some (.int .i64 ((rd_T33 t139 x9_1).f2)) ∧ w'.cell? ⟨(ad142.add ((x9_1).toNat * 6)).block, (ad142.add ((x9_1).toNat * 6)).off + 3, none⟩ = some (.int .i64 ((rd_T33 t139 x9_1).f3)) ∧ w'.cell? ⟨(ad142.add ((x9_1).toNat * 6)).block, (ad142.add ((x9_1).toNat * 6)).off + 4, none⟩ = some (.slice A154_4 ((rd_T33 t139 x9_1).f4).length c154_4) ∧ w'.cell? ⟨(ad142.add ((x9_1).toNat * 6)).block, (ad142.add ((x9_1).toNat * 6)).off + 5, none⟩ = some (.slice A154_5 ((rd_T33 t139 x9_1).f5).length c154_5) ∧ w'.cell? (ad147.add ((t144).toNat * 6)) = some (.int .i64 ((rd_T33 l1 t144).f0)) ∧ w'.cell? ⟨(ad147.add ((t144).toNat * 6)).block, (ad147.add ((t144).toNat * 6)).off + 1, none⟩ = some (.string ((rd_T33 l1 t144).f1)) ∧ w'.cell? ⟨(ad147.add ((t144).toNat * 6)).block, (ad147.add ((t144).toNat * 6)).off + 2, none⟩ = some (.int .i64 ((rd_T33 l1 t144).f2)) ∧ w'.cell? ⟨(ad147.add ((t144).toNat * 6)).block, (ad147.add ((t144).toNat * 6)).off + 3, none⟩ = some (.int .i64 ((rd_T33 l1 t144).f3)) ∧ w'.cell? ⟨(ad147.add ((t144).toNat * 6)).block, (ad147.add ((t144).toNat * 6)).off + 4, none⟩ = some (.slice A155_4 ((rd_T33 l1 t144).f4).length c155_4) ∧ w'.cell? ⟨(ad147.add ((t144).toNat * 6)).block, (ad147.add ((t144).toNat * 6)).off + 5, none⟩ = some (.slice A155_5 ((rd_T33 l1 t144).f5).length c155_5)) ∧ (Kd.V k33 33 w' w.heap.size (fun k_ => (P0_ k_ ∨ w.heap.size ≤ k_) ∧ some k_ ≠ (s_.1 : Value).ownBlock ∧ some k_ ≠ (u7 : Value).ownBlock ∧ some k_ ≠ (.slice (some ad142) t139.length co22 : Value).ownBlock ∧ k_ ≠ g3 ∧ k_ ≠ s_.2.2.2) (.slice A153_4 ((rd_T33 t139 x9_1).f4).length c153_4) ((rd_T33 t139 x9_1).f4)) ∧ (Kd.V k33 33 w' w.heap.size (fun k_ => (P0_ k_ ∨ w.heap.size ≤ k_) ∧ some k_ ≠ (s_.1 : Value).ownBlock ∧ some k_ ≠ (u7 : Value).ownBlock ∧ some k_ ≠ (.slice (some ad142) t139.length co22 : Value).ownBlock ∧ k_ ≠ g3 ∧ k_ ≠ s_.2.2.2) (.slice A153_5 ((rd_T33 t139 x9_1).f5).length c153_5) ((rd_T33 t139 x9_1).f5)) ∧ (Kd.V k33 33 w' w.heap.size (fun k_ => (P0_ k_ ∨ w.heap.size ≤ k_) ∧ some k_ ≠ (s_.1 : Value).ownBlock ∧ some k_ ≠ (u7 : Value).ownBlock ∧ some k_ ≠ (.slice (some ad142) t139.length co22 : Value).ownBlock ∧ k_ ≠ g3 ∧ k_ ≠ s_.2.2.2) (.slice A154_4 ((rd_T33 t139 x9_1).f4).length c154_4) ((rd_T33 t139 x9_1).f4)) ∧ (Kd.V k33 33 w' w.heap.size (fun k_ => (P0_ k_ ∨ w.heap.size ≤ k_) ∧ some k_ ≠ (s_.1 : Value).ownBlock ∧ some k_ ≠ (u7 : Value).ownBlock ∧ some k_ ≠ (.slice (some ad142) t139.length co22 : Value).ownBlock ∧ k_ ≠ g3 ∧ k_ ≠ s_.2.2.2) (.slice A154_5 ((rd_T33 t139 x9_1).f5).length c154_5) ((rd_T33 t139 x9_1).f5)) ∧ (Kd.R k42 42 w' w.heap.size (fun k_ => (w.heap.size ≤ k_) ∧ some k_ ≠ (u7 : Value).ownBlock) s_.1 t156) ∧ (Kd.V k33 33 w' w.heap.size (fun k_ => (P0_ k_ ∨ w.heap.size ≤ k_) ∧ some k_ ≠ (s_.1 : Value).ownBlock ∧ some k_ ≠ (u7 : Value).ownBlock ∧ some k_ ≠ (.slice (some ad142) t139.length co22 : Value).ownBlock ∧ k_ ≠ g3 ∧ k_ ≠ s_.2.2.2) s_.2.1 t163) ∧ (Kd.V k33 33 w' w.heap.size (fun k_ => (P0_ k_ ∨ w.heap.size ≤ k_) ∧ some k_ ≠ (s_.1 : Value).ownBlock ∧ some k_ ≠ (u7 : Value).ownBlock ∧ some k_ ≠ (.slice (some ad142) t139.length co22 : Value).ownBlock ∧ k_ ≠ g3 ∧ k_ ≠ s_.2.2.2) s_.2.2.1 t166) ∧ (Kd.R k42 42 w' w.heap.size (fun k_ => (w.heap.size ≤ k_) ∧ some k_ ≠ (s_.1 : Value).ownBlock) u7 x7_20) ∧ (Kd.N k33 33 w' w.heap.size (fun k_ => (P0_ k_ ∨ w.heap.size ≤ k_) ∧ some k_ ≠ (s_.1 : Value).ownBlock ∧ some k_ ≠ (u7 : Value).ownBlock ∧ k_ ≠ g3 ∧ k_ ≠ s_.2.2.2) (.slice (some ad142) t139.length co22) t139) ∧ (w'.heap[g3]? = some (.cells #[.int .i64 x139000_1, .string x139001_1, .int .i64 x139002_1, .int .i64 x139003_1, .slice none 0 0, .slice none 0 0] 33 (0, 0))) ∧ (w'.heap[s_.2.2.2]? = some (.cells #[.int .i64 0, .string (⟨#[]⟩ : ByteArray), .int .i64 0, .int .i64 0, .slice none 0 0, .slice none 0 0] 33 (0, 0))) ∧ (w.heap.size ≤ s_.2.2.2) ∧ (w.heap.size ≤ s_.2.2.2) ∧ (g3 ≠ s_.2.2.2) ∧ (s_.2.2.2 ≠ g3) ∧ (Below w.heap.size w w')) ?_ ?_
                rotate_left
                ·intro hCont
                 refine two_ (i := 10) (j := 15) (Ni := some 82) (Nj := some 12) #[true, true, true, true, true, true, true, true, true, true, true, false, false, false, false, false, false, false, false] #[true, true, true, true, true, true, true, true, true, true, false, false, false, false, false, true, false, false, false] rfl rfl rfl rfl (two_of HT_.out (by kernel_rfl)) (by decide) (by decide) (fun K hK => ?_) (fun K hK => ?_)
                 ·skip
                  refine goes_ Try.func9 (by kernel_rfl) rfl #[.slice A154_4 ((rd_T33 t139 x9_1).f4).length c154_4, .slice A155_4 ((rd_T33 l1 t144).f4).length c155_4] (by rfl) rfl rfl (by (try simp only [List.map_toArray, List.map_cons, List.map_nil]); rfl) ?_
                  with_reducible refine (ih kj20 (by have := HK1.out; have := HJ20.out; omega) (fun k_ => (((P0_ k_ ∨ w.heap.size ≤ k_) ∧ (some k_ ≠ (u7 : Value).ownBlock ∧ k_ ≠ g3)) ∧ some k_ ≠ (.slice (some ad142) t139.length co22 : Value).ownBlock)) _ _ ((rd_T33 t139 x9_1).f4) _ _ ((rd_T33 l1 t144).f4) t156 t159 t160 t161 t162 t163 t166 false _ ?side1 ?side2 ?side3 A34.out).mono ?_
                  (case side1 => exact HL154_4.out)
                  (case side2 => repeat (exact (Kd.C_below HR155_4.out HB.out)))
                  (case side3 => exact HC155_4.out)
                  rintro e w52 ⟨v157, v164, v167, rfl, ho0, ho1, ho2, hb⟩
                  have HS0_ := (hb.cell (bl9 _ _ (hh.1))).trans (hh.1)
                  have HS1_ := (hb.cell (bl9 _ _ (hh.2.1))).trans (hh.2.1)
                  have HS2_ := (hb.cell (bl9 _ _ (hh.2.2.1))).trans (hh.2.2.1)
                  have HS3_ := (hb.cell (bl9 _ _ (hh.2.2.2.1))).trans (hh.2.2.2.1)
                  have HS4_ := (hb.cell (bl9 _ _ (hh.2.2.2.2.1))).trans (hh.2.2.2.2.1)
                  have HS5_ := (hb.cell (bl9 _ _ (hh.2.2.2.2.2.1))).trans (hh.2.2.2.2.2.1)
                  refine ⟨_, rfl, ?_⟩
                  have n0_ := am9 (Kd.R_elder' (by exact HO_7.out) (Kd.R_base ho0) hb)
                  have n1_ := am9 (Kd.N_elder' (by exact HO_8.out) (Kd.R_base ho0) hb)
                  have n2_ := am9 (Kd.V_elder' (by exact HL153_4.out) (Kd.R_base ho0) hb)
                  have n3_ := am9 (Kd.V_elder' (by exact HL153_5.out) (Kd.R_base ho0) hb)
                  have n4_ := am9 (Kd.V_elder' (by exact HL154_4.out) (Kd.R_base ho0) hb)
                  have n5_ := am9 (Kd.V_elder' (by exact HL154_5.out) (Kd.R_base ho0) hb)
                  have n6_ := am9 (Kd.R_lower (Kd.R_new' (Kd.R_newM (M := fun k_ => (w.heap.size ≤ k_)) (Kd.R_mono (ok' := fun k_ => True) ho0 (fun _ hk_ => trivial)) (below_size (by repeat (with_reducible exact HB.out))) (fun k_ h_ => h_)) (Kd.R_lt (by exact HO_7.out))) (below_size (by repeat (with_reducible exact HB.out))))
                  have n7_ := am9 (Kd.V_lower (Kd.V_mono (ok' := fun k_ => (P0_ k_ ∨ w.heap.size ≤ k_) ∧ some k_ ≠ (v157 : Value).ownBlock ∧ some k_ ≠ (u7 : Value).ownBlock ∧ some k_ ≠ (.slice (some ad142) t139.length co22 : Value).ownBlock ∧ k_ ≠ g3) ho1 (fun k_ hk_ => ⟨Or.elim hk_.1 (fun hs_ => hs_.1.1) (fun hn_ => (.inr (Nat.le_trans (below_size (by repeat (with_reducible exact HB.out))) hn_))), hk_.2, Or.elim hk_.1 (fun hs_ => hs_.1.2.1) (fun hn_ => (Kd.fresh' (Kd.R_lt (by exact HO_7.out)) k_ hn_)), Or.elim hk_.1 (fun hs_ => hs_.2) (fun hn_ => (Kd.fresh' (Kd.N_lt (by exact HO_8.out)) k_ hn_)), Or.elim hk_.1 (fun hs_ => hs_.1.2.2) (fun hn_ => (Kd.freshB (g := g3) (o := .cells #[.int .i64 x139000_1, .string x139001_1, .int .i64 x139002_1, .int .i64 x139003_1, .slice none 0 0, .slice none 0 0] 33 (0, 0)) (by exact BK138.out) k_ hn_))⟩)) (below_size (by repeat (with_reducible exact HB.out))))
                  have n8_ := am9 (Kd.V_lower (Kd.V_mono (ok' := fun k_ => (P0_ k_ ∨ w.heap.size ≤ k_) ∧ some k_ ≠ (v157 : Value).ownBlock ∧ some k_ ≠ (u7 : Value).ownBlock ∧ some k_ ≠ (.slice (some ad142) t139.length co22 : Value).ownBlock ∧ k_ ≠ g3) ho2 (fun k_ hk_ => ⟨Or.elim hk_.1 (fun hs_ => hs_.1.1) (fun hn_ => (.inr (Nat.le_trans (below_size (by repeat (with_reducible exact HB.out))) hn_))), hk_.2, Or.elim hk_.1 (fun hs_ => hs_.1.2.1) (fun hn_ => (Kd.fresh' (Kd.R_lt (by exact HO_7.out)) k_ hn_)), Or.elim hk_.1 (fun hs_ => hs_.2) (fun hn_ => (Kd.fresh' (Kd.N_lt (by exact HO_8.out)) k_ hn_)), Or.elim hk_.1 (fun hs_ => hs_.1.2.2) (fun hn_ => (Kd.freshB (g := g3) (o := .cells #[.int .i64 x139000_1, .string x139001_1, .int .i64 x139002_1, .int .i64 x139003_1, .slice none 0 0, .slice none 0 0] 33 (0, 0)) (by exact BK138.out) k_ hn_))⟩)) (below_size (by repeat (with_reducible exact HB.out))))
                  have n9_ := am9 (blk_below (g := g3) (o := .cells #[.int .i64 x139000_1, .string x139001_1, .int .i64 x139002_1, .int .i64 x139003_1, .slice none 0 0, .slice none 0 0] 33 (0, 0)) (by exact BK138.out) hb)
                  have n10_ := am9 (Kd.C_below (by repeat (with_reducible exact HR153_4.out)) hb)
                  have n11_ := am9 (Kd.C_below (by repeat (with_reducible exact HR153_5.out)) hb)
                  have n12_ := am9 (Kd.C_below (by repeat (with_reducible exact HR154_4.out)) hb)
                  have n13_ := am9 (Kd.C_below (by repeat (with_reducible exact HR154_5.out)) hb)
                  have n14_ := am9 (below_step (by repeat (with_reducible exact HB.out)) hb)
                  clear HO_7
                  clear HO_8
                  clear HL153_4
                  clear HL153_5
                  clear HL154_4
                  clear HL154_5
                  clear BK138
                  clear HR153_4
                  clear HR153_5
                  clear HR154_4
                  clear HR154_5
                  clear HB
                  have HO_7 := n0_
                  have HO_8 := n1_
                  have HL153_4 := n2_
                  have HL153_5 := n3_
                  have HL154_4 := n4_
                  have HL154_5 := n5_
                  have HO158 := n6_
                  have HO165 := n7_
                  have HO168 := n8_
                  have BK138 := n9_
                  have HR153_4 := n10_
                  have HR153_5 := n11_
                  have HR154_4 := n12_
                  have HR154_5 := n13_
                  have HB := n14_
                  clear n0_ n1_ n2_ n3_ n4_ n5_ n6_ n7_ n8_ n9_ n10_ n11_ n12_ n13_ n14_
                  (try clear hb)
                  (try clear hb2)
                  (try clear hk)
                  (try clear hi)
                  (try clear ho0)
                  (try clear ho1)
                  (try clear ho2)
                  refine hK.out _ _ ⟨HS0_, HS1_, HS2_, HS3_, HS4_, HS5_, ((HB.out.cell (bl9 w _ hw155_0)).trans hw155_0), ((HB.out.cell (bl9 w _ hw155_1)).trans hw155_1), ((HB.out.cell (bl9 w _ hw155_2)).trans hw155_2), ((HB.out.cell (bl9 w _ hw155_3)).trans hw155_3), ((HB.out.cell (bl9 w _ hw155_4)).trans hw155_4), ((HB.out.cell (bl9 w _ hw155_5)).trans hw155_5)⟩ (fun hh => ?_)
                  clear hK K
                  refine norm_ (a' := ?_) ?_ ?_
                  rotate_left
                  ·show Act.put _ (some 82) _ = _
                   simp only [Act.put, List.setIfInBounds_toArray, List.set_cons_zero, List.set_cons_succ, i64_w, i32_w]
                   rfl
                  refine pure_ (i := 11) (N := some 71) (v := ?_) (a' := ?_) #[true, true, true, true, true, true, true, true, true, true, true, true, false, false, false, false, false, false, false] rfl rfl (any_of HT_.out (by kernel_rfl)) (fun _ _ _ h => h) (Or.inl ⟨by rfl, ?_⟩) ?_ ?_
                  rotate_left
                  ·intro w'
                   go_simp
                   with_reducible rfl
                  rotate_left
                  ·simp only [Act.put, List.setIfInBounds_toArray, List.set_cons_zero, List.set_cons_succ, i64_w, i32_w]
                   rfl
                  refine pure_ (i := 12) (N := some 83) (v := ?_) (a' := ?_) #[true, true, true, true, true, true, true, true, true, true, true, true, true, false, false, false, false, false, false] rfl rfl (any_of HT_.out (by kernel_rfl)) (fun _ _ _ h => h) (Or.inl ⟨by rfl, ?_⟩) ?_ ?_
                  rotate_left
                  ·intro w'
                   go_simp
                   with_reducible rfl
                  rotate_left
                  ·simp only [Act.put, List.setIfInBounds_toArray, List.set_cons_zero, List.set_cons_succ, i64_w, i32_w]
                   rfl
                  refine pure_ (i := 13) (N := some 84) (v := ?_) (a' := ?_) #[true, true, true, true, true, true, true, true, true, true, true, true, true, true, false, false, false, false, false] rfl rfl (any_of HT_.out (by kernel_rfl)) (fun _ _ _ h => h) (Or.inl ⟨by rfl, ?_⟩) ?_ ?_
                  rotate_left
                  ·intro w'
                   go_simp
                   with_reducible rfl
                  rotate_left
                  ·simp only [Act.put, List.setIfInBounds_toArray, List.set_cons_zero, List.set_cons_succ, i64_w, i32_w]
                   rfl
                  refine pure_ (i := 14) (N := some 85) (v := ?_) (a' := ?_) #[true, true, true, true, true, true, true, true, true, true, true, true, true, true, true, false, false, false, false] rfl rfl (any_of HT_.out (by kernel_rfl)) (fun _ _ _ h => h) (Or.inl ⟨by rfl, ?_⟩) ?_ ?_
                  rotate_left
                  ·intro w'
                   go_simp
                   with_reducible rfl
                  rotate_left
                  ·simp only [Act.put, List.setIfInBounds_toArray, List.set_cons_zero, List.set_cons_succ, i64_w, i32_w]
                   rfl
                  refine one_ (i := 15) (N := some 12) #[true, true, true, true, true, true, true, true, true, true, true, true, true, true, true, true, false, false, false] rfl rfl (one_of HT_.out (by kernel_rfl)) (by decide) (fun K hK => ?_)
                  refine box_step ?hg (N := 12) ?hd (cs := #[.int .i64 0, .string (⟨#[]⟩ : ByteArray), .int .i64 0, .int .i64 0, .slice none 0 0, .slice none 0 0]) (t := 33) ?hr ?_; (case hd => rfl); (case hg => rfl); (case hr => (go_simp; done))
                  intro g7 hg w53 hbox hb
                  have HS0_ := (hb.cell (bl9 _ _ (hh.1))).trans (hh.1)
                  have HS1_ := (hb.cell (bl9 _ _ (hh.2.1))).trans (hh.2.1)
                  have HS2_ := (hb.cell (bl9 _ _ (hh.2.2.1))).trans (hh.2.2.1)
                  have HS3_ := (hb.cell (bl9 _ _ (hh.2.2.2.1))).trans (hh.2.2.2.1)
                  have HS4_ := (hb.cell (bl9 _ _ (hh.2.2.2.2.1))).trans (hh.2.2.2.2.1)
                  have HS5_ := (hb.cell (bl9 _ _ (hh.2.2.2.2.2.1))).trans (hh.2.2.2.2.2.1)
                  have n0_ := am9 (Kd.R_below (by exact HO_7.out) hb)
                  have n1_ := am9 (Kd.N_below (Kd.N_elderB (by exact HO_8.out) g7 (Nat.le_of_eq hg.symm)) hb)
                  have n2_ := am9 (Kd.V_below (Kd.V_elderB (by exact HL153_4.out) g7 (Nat.le_of_eq hg.symm)) hb)
                  have n3_ := am9 (Kd.V_below (Kd.V_elderB (by exact HL153_5.out) g7 (Nat.le_of_eq hg.symm)) hb)
                  have n4_ := am9 (Kd.V_below (Kd.V_elderB (by exact HL154_4.out) g7 (Nat.le_of_eq hg.symm)) hb)
                  have n5_ := am9 (Kd.V_below (Kd.V_elderB (by exact HL154_5.out) g7 (Nat.le_of_eq hg.symm)) hb)
                  have n6_ := am9 (Kd.R_below (by exact HO158.out) hb)
                  have n7_ := am9 (Kd.V_below (Kd.V_elderB (by exact HO165.out) g7 (Nat.le_of_eq hg.symm)) hb)
                  have n8_ := am9 (Kd.V_below (Kd.V_elderB (by exact HO168.out) g7 (Nat.le_of_eq hg.symm)) hb)
                  have n9_ := am9 (blk_below (g := g3) (o := .cells #[.int .i64 x139000_1, .string x139001_1, .int .i64 x139002_1, .int .i64 x139003_1, .slice none 0 0, .slice none 0 0] 33 (0, 0)) (by exact BK138.out) hb)
                  have n10_ := am9 (Kd.C_below (by repeat (with_reducible exact HR153_4.out)) hb)
                  have n11_ := am9 (Kd.C_below (by repeat (with_reducible exact HR153_5.out)) hb)
                  have n12_ := am9 (Kd.C_below (by repeat (with_reducible exact HR154_4.out)) hb)
                  have n13_ := am9 (Kd.C_below (by repeat (with_reducible exact HR154_5.out)) hb)
                  have n14_ := am9 (below_step (by repeat (with_reducible exact HB.out)) hb)
                  have n15_ := am9 (hbox)
                  have n16_ := am9 ((by rw [hg]; exact (below_size (by repeat (with_reducible exact HB.out))) : w.heap.size ≤ g7))
                  have n17_ := am9 ((by rw [hg]; exact (below_size (by repeat (with_reducible exact HB.out))) : w.heap.size ≤ g7))
                  have n18_ := am9 ((by rw [hg]; exact Nat.ne_of_lt (blk_lt (g := g3) (o := .cells #[.int .i64 x139000_1, .string x139001_1, .int .i64 x139002_1, .int .i64 x139003_1, .slice none 0 0, .slice none 0 0] 33 (0, 0)) (by exact BK138.out)) : g3 ≠ g7))
                  have n19_ := am9 ((by rw [hg]; exact Nat.ne_of_gt (blk_lt (g := g3) (o := .cells #[.int .i64 x139000_1, .string x139001_1, .int .i64 x139002_1, .int .i64 x139003_1, .slice none 0 0, .slice none 0 0] 33 (0, 0)) (by exact BK138.out)) : g7 ≠ g3))
                  clear HO_7
                  clear HO_8
                  clear HL153_4
                  clear HL153_5
                  clear HL154_4
                  clear HL154_5
                  clear HO158
                  clear HO165
                  clear HO168
                  clear BK138
                  clear HR153_4
                  clear HR153_5
                  clear HR154_4
                  clear HR154_5
                  clear HB
                  have HO_7 := n0_
                  have HO_8 := n1_
                  have HL153_4 := n2_
                  have HL153_5 := n3_
                  have HL154_4 := n4_
                  have HL154_5 := n5_
                  have HO158 := n6_
                  have HO165 := n7_
                  have HO168 := n8_
                  have BK138 := n9_
                  have HR153_4 := n10_
                  have HR153_5 := n11_
                  have HR154_4 := n12_
                  have HR154_5 := n13_
                  have HB := n14_
                  have BK170 := n15_
                  have GW170 := n16_
                  have GE170 := n17_
                  have NB138_170 := n18_
                  have NB170_138 := n19_
                  clear n0_ n1_ n2_ n3_ n4_ n5_ n6_ n7_ n8_ n9_ n10_ n11_ n12_ n13_ n14_ n15_ n16_ n17_ n18_ n19_
                  clear hb hbox hg
                  refine hK.out _ _ ⟨HS0_, HS1_, HS2_, HS3_, HS4_, HS5_, ((HB.out.cell (bl9 w _ hw155_0)).trans hw155_0), ((HB.out.cell (bl9 w _ hw155_1)).trans hw155_1), ((HB.out.cell (bl9 w _ hw155_2)).trans hw155_2), ((HB.out.cell (bl9 w _ hw155_3)).trans hw155_3), ((HB.out.cell (bl9 w _ hw155_4)).trans hw155_4), ((HB.out.cell (bl9 w _ hw155_5)).trans hw155_5)⟩ (fun hh => ?_)
                  clear hK K
                  refine norm_ (a' := ?_) ?_ ?_
                  rotate_left
                  ·show Act.put _ (some 12) _ = _
                   simp only [Act.put, List.setIfInBounds_toArray, List.set_cons_zero, List.set_cons_succ, i64_w, i32_w]
                   rfl
                  exact norm_ (by simp only [putAll, Act.put, List.setIfInBounds_toArray, List.set_cons_zero, List.set_cons_succ]) (hCont (v157, v164, v167, g7) _ ⟨hh, (by exact Kd.V_mono HL153_4.out (fun _ hk => ⟨hk.1.1.1.1, ⟨hk.1.2, ⟨hk.1.1.1.2.1, ⟨hk.1.1.2, ⟨hk.1.1.1.2.2, hk.2⟩⟩⟩⟩⟩)), (by exact Kd.V_mono HL153_5.out (fun _ hk => ⟨hk.1.1.1.1, ⟨hk.1.2, ⟨hk.1.1.1.2.1, ⟨hk.1.1.2, ⟨hk.1.1.1.2.2, hk.2⟩⟩⟩⟩⟩)), (by exact Kd.V_mono HL154_4.out (fun _ hk => ⟨hk.1.1.1.1, ⟨hk.1.2, ⟨hk.1.1.1.2.1, ⟨hk.1.1.2, ⟨hk.1.1.1.2.2, hk.2⟩⟩⟩⟩⟩)), (by exact Kd.V_mono HL154_5.out (fun _ hk => ⟨hk.1.1.1.1, ⟨hk.1.2, ⟨hk.1.1.1.2.1, ⟨hk.1.1.2, ⟨hk.1.1.1.2.2, hk.2⟩⟩⟩⟩⟩)), (by exact Kd.R_mono HO158.out (fun _ hk => ⟨hk.1.1, hk.2⟩)), (by exact Kd.V_mono HO165.out (fun _ hk => ⟨hk.1.1, ⟨hk.1.2.1, ⟨hk.1.2.2.1, ⟨hk.1.2.2.2.1, ⟨hk.1.2.2.2.2, hk.2⟩⟩⟩⟩⟩)), (by exact Kd.V_mono HO168.out (fun _ hk => ⟨hk.1.1, ⟨hk.1.2.1, ⟨hk.1.2.2.1, ⟨hk.1.2.2.2.1, ⟨hk.1.2.2.2.2, hk.2⟩⟩⟩⟩⟩)), (by exact HO_7.out), (by exact Kd.N_mono HO_8.out (fun _ hk => ⟨hk.1.1.1, ⟨hk.1.2, ⟨hk.1.1.2.1, ⟨hk.1.1.2.2, hk.2⟩⟩⟩⟩)), (by exact BK138.out), (by exact BK170.out), GW170.out, GE170.out, NB138_170.out, NB170_138.out, (by repeat (with_reducible exact HB.out))⟩)
                 ·skip
                  refine box_step ?hg (N := 12) ?hd (cs := #[.int .i64 0, .string (⟨#[]⟩ : ByteArray), .int .i64 0, .int .i64 0, .slice none 0 0, .slice none 0 0]) (t := 33) ?hr ?_; (case hd => rfl); (case hg => rfl); (case hr => (go_simp; done))
                  intro g7 hg w52 hbox hb
                  have HS0_ := (hb.cell (bl9 _ _ (hh.1))).trans (hh.1)
                  have HS1_ := (hb.cell (bl9 _ _ (hh.2.1))).trans (hh.2.1)
                  have HS2_ := (hb.cell (bl9 _ _ (hh.2.2.1))).trans (hh.2.2.1)
                  have HS3_ := (hb.cell (bl9 _ _ (hh.2.2.2.1))).trans (hh.2.2.2.1)
                  have HS4_ := (hb.cell (bl9 _ _ (hh.2.2.2.2.1))).trans (hh.2.2.2.2.1)
                  have HS5_ := (hb.cell (bl9 _ _ (hh.2.2.2.2.2.1))).trans (hh.2.2.2.2.2.1)
                  have n0_ := am9 (Kd.R_below (by exact HO_7.out) hb)
                  have n1_ := am9 (Kd.N_below (Kd.N_elderB (by exact HO_8.out) g7 (Nat.le_of_eq hg.symm)) hb)
                  have n2_ := am9 (Kd.V_below (Kd.V_elderB (by exact HL153_4.out) g7 (Nat.le_of_eq hg.symm)) hb)
                  have n3_ := am9 (Kd.V_below (Kd.V_elderB (by exact HL153_5.out) g7 (Nat.le_of_eq hg.symm)) hb)
                  have n4_ := am9 (Kd.V_below (Kd.V_elderB (by exact HL154_4.out) g7 (Nat.le_of_eq hg.symm)) hb)
                  have n5_ := am9 (Kd.V_below (Kd.V_elderB (by exact HL154_5.out) g7 (Nat.le_of_eq hg.symm)) hb)
                  have n6_ := am9 (blk_below (g := g3) (o := .cells #[.int .i64 x139000_1, .string x139001_1, .int .i64 x139002_1, .int .i64 x139003_1, .slice none 0 0, .slice none 0 0] 33 (0, 0)) (by exact BK138.out) hb)
                  have n7_ := am9 (Kd.C_below (by repeat (with_reducible exact HR153_4.out)) hb)
                  have n8_ := am9 (Kd.C_below (by repeat (with_reducible exact HR153_5.out)) hb)
                  have n9_ := am9 (Kd.C_below (by repeat (with_reducible exact HR154_4.out)) hb)
                  have n10_ := am9 (Kd.C_below (by repeat (with_reducible exact HR154_5.out)) hb)
                  have n11_ := am9 (below_step (by repeat (with_reducible exact HB.out)) hb)
                  have n12_ := am9 (hbox)
                  have n13_ := am9 ((by rw [hg]; exact (below_size (by repeat (with_reducible exact HB.out))) : w.heap.size ≤ g7))
                  have n14_ := am9 ((by rw [hg]; exact (below_size (by repeat (with_reducible exact HB.out))) : w.heap.size ≤ g7))
                  have n15_ := am9 ((by rw [hg]; exact Nat.ne_of_lt (blk_lt (g := g3) (o := .cells #[.int .i64 x139000_1, .string x139001_1, .int .i64 x139002_1, .int .i64 x139003_1, .slice none 0 0, .slice none 0 0] 33 (0, 0)) (by exact BK138.out)) : g3 ≠ g7))
                  have n16_ := am9 ((by rw [hg]; exact Nat.ne_of_gt (blk_lt (g := g3) (o := .cells #[.int .i64 x139000_1, .string x139001_1, .int .i64 x139002_1, .int .i64 x139003_1, .slice none 0 0, .slice none 0 0] 33 (0, 0)) (by exact BK138.out)) : g7 ≠ g3))
                  clear HO_7
                  clear HO_8
                  clear HL153_4
                  clear HL153_5
                  clear HL154_4
                  clear HL154_5
                  clear BK138
                  clear HR153_4
                  clear HR153_5
                  clear HR154_4
                  clear HR154_5
                  clear HB
                  have HO_7 := n0_
                  have HO_8 := n1_
                  have HL153_4 := n2_
                  have HL153_5 := n3_
                  have HL154_4 := n4_
                  have HL154_5 := n5_
                  have BK138 := n6_
                  have HR153_4 := n7_
                  have HR153_5 := n8_
                  have HR154_4 := n9_
                  have HR154_5 := n10_
                  have HB := n11_
                  have BK170 := n12_
                  have GW170 := n13_
                  have GE170 := n14_
                  have NB138_170 := n15_
                  have NB170_138 := n16_
                  clear n0_ n1_ n2_ n3_ n4_ n5_ n6_ n7_ n8_ n9_ n10_ n11_ n12_ n13_ n14_ n15_ n16_
                  clear hb hbox hg
                  refine hK.out _ _ ⟨HS0_, HS1_, HS2_, HS3_, HS4_, HS5_, ((HB.out.cell (bl9 w _ hw155_0)).trans hw155_0), ((HB.out.cell (bl9 w _ hw155_1)).trans hw155_1), ((HB.out.cell (bl9 w _ hw155_2)).trans hw155_2), ((HB.out.cell (bl9 w _ hw155_3)).trans hw155_3), ((HB.out.cell (bl9 w _ hw155_4)).trans hw155_4), ((HB.out.cell (bl9 w _ hw155_5)).trans hw155_5)⟩ (fun hh => ?_)
                  clear hK K
                  refine norm_ (a' := ?_) ?_ ?_
                  rotate_left
                  ·show Act.put _ (some 12) _ = _
                   simp only [Act.put, List.setIfInBounds_toArray, List.set_cons_zero, List.set_cons_succ, i64_w, i32_w]
                   rfl
                  refine one_ (i := 10) (N := some 82) #[true, true, true, true, true, true, true, true, true, true, true, false, false, false, false, true, false, false, false] rfl rfl (one_of HT_.out (by kernel_rfl)) (by decide) (fun K hK => ?_)
                  refine goes_ Try.func9 (by kernel_rfl) rfl #[.slice A154_4 ((rd_T33 t139 x9_1).f4).length c154_4, .slice A155_4 ((rd_T33 l1 t144).f4).length c155_4] (by rfl) rfl rfl (by (try simp only [List.map_toArray, List.map_cons, List.map_nil]); rfl) ?_
                  with_reducible refine (ih kj20 (by have := HK1.out; have := HJ20.out; omega) (fun k_ => ((((P0_ k_ ∨ w.heap.size ≤ k_) ∧ (some k_ ≠ (u7 : Value).ownBlock ∧ k_ ≠ g3)) ∧ some k_ ≠ (.slice (some ad142) t139.length co22 : Value).ownBlock) ∧ k_ ≠ g7)) _ _ ((rd_T33 t139 x9_1).f4) _ _ ((rd_T33 l1 t144).f4) t156 t159 t160 t161 t162 t163 t166 false _ ?side1 ?side2 ?side3 A34.out).mono ?_
                  (case side1 => exact HL154_4.out)
                  (case side2 => repeat (exact (Kd.C_below HR155_4.out HB.out)))
                  (case side3 => exact HC155_4.out)
                  rintro e w53 ⟨v157, v164, v167, rfl, ho0, ho1, ho2, hb⟩
                  have HS0_ := (hb.cell (bl9 _ _ (hh.1))).trans (hh.1)
                  have HS1_ := (hb.cell (bl9 _ _ (hh.2.1))).trans (hh.2.1)
                  have HS2_ := (hb.cell (bl9 _ _ (hh.2.2.1))).trans (hh.2.2.1)
                  have HS3_ := (hb.cell (bl9 _ _ (hh.2.2.2.1))).trans (hh.2.2.2.1)
                  have HS4_ := (hb.cell (bl9 _ _ (hh.2.2.2.2.1))).trans (hh.2.2.2.2.1)
                  have HS5_ := (hb.cell (bl9 _ _ (hh.2.2.2.2.2.1))).trans (hh.2.2.2.2.2.1)
                  refine ⟨_, rfl, ?_⟩
                  have n0_ := am9 (Kd.R_elder' (by exact HO_7.out) (Kd.R_base ho0) hb)
                  have n1_ := am9 (Kd.N_elder' (by exact HO_8.out) (Kd.R_base ho0) hb)
                  have n2_ := am9 (Kd.V_elder' (by exact HL153_4.out) (Kd.R_base ho0) hb)
                  have n3_ := am9 (Kd.V_elder' (by exact HL153_5.out) (Kd.R_base ho0) hb)
                  have n4_ := am9 (Kd.V_elder' (by exact HL154_4.out) (Kd.R_base ho0) hb)
                  have n5_ := am9 (Kd.V_elder' (by exact HL154_5.out) (Kd.R_base ho0) hb)
                  have n6_ := am9 (Kd.R_lower (Kd.R_new' (Kd.R_newM (M := fun k_ => (w.heap.size ≤ k_)) (Kd.R_mono (ok' := fun k_ => True) ho0 (fun _ hk_ => trivial)) (below_size (by repeat (with_reducible exact HB.out))) (fun k_ h_ => h_)) (Kd.R_lt (by exact HO_7.out))) (below_size (by repeat (with_reducible exact HB.out))))
                  have n7_ := am9 (Kd.V_lower (Kd.V_mono (ok' := fun k_ => (P0_ k_ ∨ w.heap.size ≤ k_) ∧ some k_ ≠ (v157 : Value).ownBlock ∧ some k_ ≠ (u7 : Value).ownBlock ∧ some k_ ≠ (.slice (some ad142) t139.length co22 : Value).ownBlock ∧ k_ ≠ g3 ∧ k_ ≠ g7) ho1 (fun k_ hk_ => ⟨Or.elim hk_.1 (fun hs_ => hs_.1.1.1) (fun hn_ => (.inr (Nat.le_trans (below_size (by repeat (with_reducible exact HB.out))) hn_))), hk_.2, Or.elim hk_.1 (fun hs_ => hs_.1.1.2.1) (fun hn_ => (Kd.fresh' (Kd.R_lt (by exact HO_7.out)) k_ hn_)), Or.elim hk_.1 (fun hs_ => hs_.1.2) (fun hn_ => (Kd.fresh' (Kd.N_lt (by exact HO_8.out)) k_ hn_)), Or.elim hk_.1 (fun hs_ => hs_.1.1.2.2) (fun hn_ => (Kd.freshB (g := g3) (o := .cells #[.int .i64 x139000_1, .string x139001_1, .int .i64 x139002_1, .int .i64 x139003_1, .slice none 0 0, .slice none 0 0] 33 (0, 0)) (by exact BK138.out) k_ hn_)), Or.elim hk_.1 (fun hs_ => hs_.2) (fun hn_ => (Kd.freshB (g := g7) (o := .cells #[.int .i64 0, .string (⟨#[]⟩ : ByteArray), .int .i64 0, .int .i64 0, .slice none 0 0, .slice none 0 0] 33 (0, 0)) (by exact BK170.out) k_ hn_))⟩)) (below_size (by repeat (with_reducible exact HB.out))))
                  have n8_ := am9 (Kd.V_lower (Kd.V_mono (ok' := fun k_ => (P0_ k_ ∨ w.heap.size ≤ k_) ∧ some k_ ≠ (v157 : Value).ownBlock ∧ some k_ ≠ (u7 : Value).ownBlock ∧ some k_ ≠ (.slice (some ad142) t139.length co22 : Value).ownBlock ∧ k_ ≠ g3 ∧ k_ ≠ g7) ho2 (fun k_ hk_ => ⟨Or.elim hk_.1 (fun hs_ => hs_.1.1.1) (fun hn_ => (.inr (Nat.le_trans (below_size (by repeat (with_reducible exact HB.out))) hn_))), hk_.2, Or.elim hk_.1 (fun hs_ => hs_.1.1.2.1) (fun hn_ => (Kd.fresh' (Kd.R_lt (by exact HO_7.out)) k_ hn_)), Or.elim hk_.1 (fun hs_ => hs_.1.2) (fun hn_ => (Kd.fresh' (Kd.N_lt (by exact HO_8.out)) k_ hn_)), Or.elim hk_.1 (fun hs_ => hs_.1.1.2.2) (fun hn_ => (Kd.freshB (g := g3) (o := .cells #[.int .i64 x139000_1, .string x139001_1, .int .i64 x139002_1, .int .i64 x139003_1, .slice none 0 0, .slice none 0 0] 33 (0, 0)) (by exact BK138.out) k_ hn_)), Or.elim hk_.1 (fun hs_ => hs_.2) (fun hn_ => (Kd.freshB (g := g7) (o := .cells #[.int .i64 0, .string (⟨#[]⟩ : ByteArray), .int .i64 0, .int .i64 0, .slice none 0 0, .slice none 0 0] 33 (0, 0)) (by exact BK170.out) k_ hn_))⟩)) (below_size (by repeat (with_reducible exact HB.out))))
                  have n9_ := am9 (blk_below (g := g3) (o := .cells #[.int .i64 x139000_1, .string x139001_1, .int .i64 x139002_1, .int .i64 x139003_1, .slice none 0 0, .slice none 0 0] 33 (0, 0)) (by exact BK138.out) hb)
                  have n10_ := am9 (Kd.C_below (by repeat (with_reducible exact HR153_4.out)) hb)
                  have n11_ := am9 (Kd.C_below (by repeat (with_reducible exact HR153_5.out)) hb)
                  have n12_ := am9 (Kd.C_below (by repeat (with_reducible exact HR154_4.out)) hb)
                  have n13_ := am9 (Kd.C_below (by repeat (with_reducible exact HR154_5.out)) hb)
                  have n14_ := am9 (blk_below (g := g7) (o := .cells #[.int .i64 0, .string (⟨#[]⟩ : ByteArray), .int .i64 0, .int .i64 0, .slice none 0 0, .slice none 0 0] 33 (0, 0)) (by exact BK170.out) hb)
                  have n15_ := am9 (below_step (by repeat (with_reducible exact HB.out)) hb)
                  clear HO_7
                  clear HO_8
                  clear HL153_4
                  clear HL153_5
                  clear HL154_4
                  clear HL154_5
                  clear BK138
                  clear HR153_4
                  clear HR153_5
                  clear HR154_4
                  clear HR154_5
                  clear BK170
                  clear HB
                  have HO_7 := n0_
                  have HO_8 := n1_
                  have HL153_4 := n2_
                  have HL153_5 := n3_
                  have HL154_4 := n4_
                  have HL154_5 := n5_
                  have HO158 := n6_
                  have HO165 := n7_
                  have HO168 := n8_
                  have BK138 := n9_
                  have HR153_4 := n10_
                  have HR153_5 := n11_
                  have HR154_4 := n12_
                  have HR154_5 := n13_
                  have BK170 := n14_
                  have HB := n15_
                  clear n0_ n1_ n2_ n3_ n4_ n5_ n6_ n7_ n8_ n9_ n10_ n11_ n12_ n13_ n14_ n15_
                  (try clear hb)
                  (try clear hb2)
                  (try clear hk)
                  (try clear hi)
                  (try clear ho0)
                  (try clear ho1)
                  (try clear ho2)
                  refine hK.out _ _ ⟨HS0_, HS1_, HS2_, HS3_, HS4_, HS5_, ((HB.out.cell (bl9 w _ hw155_0)).trans hw155_0), ((HB.out.cell (bl9 w _ hw155_1)).trans hw155_1), ((HB.out.cell (bl9 w _ hw155_2)).trans hw155_2), ((HB.out.cell (bl9 w _ hw155_3)).trans hw155_3), ((HB.out.cell (bl9 w _ hw155_4)).trans hw155_4), ((HB.out.cell (bl9 w _ hw155_5)).trans hw155_5)⟩ (fun hh => ?_)
                  clear hK K
                  refine norm_ (a' := ?_) ?_ ?_
                  rotate_left
                  ·show Act.put _ (some 82) _ = _
                   simp only [Act.put, List.setIfInBounds_toArray, List.set_cons_zero, List.set_cons_succ, i64_w, i32_w]
                   rfl
                  refine pure_ (i := 11) (N := some 71) (v := ?_) (a' := ?_) #[true, true, true, true, true, true, true, true, true, true, true, true, false, false, false, true, false, false, false] rfl rfl (any_of HT_.out (by kernel_rfl)) (fun _ _ _ h => h) (Or.inl ⟨by rfl, ?_⟩) ?_ ?_
                  rotate_left
                  ·intro w'
                   go_simp
                   with_reducible rfl
                  rotate_left
                  ·simp only [Act.put, List.setIfInBounds_toArray, List.set_cons_zero, List.set_cons_succ, i64_w, i32_w]
                   rfl
                  refine pure_ (i := 12) (N := some 83) (v := ?_) (a' := ?_) #[true, true, true, true, true, true, true, true, true, true, true, true, true, false, false, true, false, false, false] rfl rfl (any_of HT_.out (by kernel_rfl)) (fun _ _ _ h => h) (Or.inl ⟨by rfl, ?_⟩) ?_ ?_
                  rotate_left
                  ·intro w'
                   go_simp
                   with_reducible rfl
                  rotate_left
                  ·simp only [Act.put, List.setIfInBounds_toArray, List.set_cons_zero, List.set_cons_succ, i64_w, i32_w]
                   rfl
                  refine pure_ (i := 13) (N := some 84) (v := ?_) (a' := ?_) #[true, true, true, true, true, true, true, true, true, true, true, true, true, true, false, true, false, false, false] rfl rfl (any_of HT_.out (by kernel_rfl)) (fun _ _ _ h => h) (Or.inl ⟨by rfl, ?_⟩) ?_ ?_
                  rotate_left
                  ·intro w'
                   go_simp
                   with_reducible rfl
                  rotate_left
                  ·simp only [Act.put, List.setIfInBounds_toArray, List.set_cons_zero, List.set_cons_succ, i64_w, i32_w]
                   rfl
                  refine pure_ (i := 14) (N := some 85) (v := ?_) (a' := ?_) #[true, true, true, true, true, true, true, true, true, true, true, true, true, true, true, true, false, false, false] rfl rfl (any_of HT_.out (by kernel_rfl)) (fun _ _ _ h => h) (Or.inl ⟨by rfl, ?_⟩) ?_ ?_
                  rotate_left
                  ·intro w'
                   go_simp
                   with_reducible rfl
                  rotate_left
                  ·simp only [Act.put, List.setIfInBounds_toArray, List.set_cons_zero, List.set_cons_succ, i64_w, i32_w]
                   rfl
                  exact norm_ (by simp only [putAll, Act.put, List.setIfInBounds_toArray, List.set_cons_zero, List.set_cons_succ]) (hCont (v157, v164, v167, g7) _ ⟨hh, (by exact Kd.V_mono HL153_4.out (fun _ hk => ⟨hk.1.1.1.1, ⟨hk.2, ⟨hk.1.1.1.2.1, ⟨hk.1.1.2, ⟨hk.1.1.1.2.2, hk.1.2⟩⟩⟩⟩⟩)), (by exact Kd.V_mono HL153_5.out (fun _ hk => ⟨hk.1.1.1.1, ⟨hk.2, ⟨hk.1.1.1.2.1, ⟨hk.1.1.2, ⟨hk.1.1.1.2.2, hk.1.2⟩⟩⟩⟩⟩)), (by exact Kd.V_mono HL154_4.out (fun _ hk => ⟨hk.1.1.1.1, ⟨hk.2, ⟨hk.1.1.1.2.1, ⟨hk.1.1.2, ⟨hk.1.1.1.2.2, hk.1.2⟩⟩⟩⟩⟩)), (by exact Kd.V_mono HL154_5.out (fun _ hk => ⟨hk.1.1.1.1, ⟨hk.2, ⟨hk.1.1.1.2.1, ⟨hk.1.1.2, ⟨hk.1.1.1.2.2, hk.1.2⟩⟩⟩⟩⟩)), (by exact Kd.R_mono HO158.out (fun _ hk => ⟨hk.1.1, hk.2⟩)), (by exact HO165.out), (by exact HO168.out), (by exact HO_7.out), (by exact Kd.N_mono HO_8.out (fun _ hk => ⟨hk.1.1.1, ⟨hk.2, ⟨hk.1.1.2.1, ⟨hk.1.1.2.2, hk.1.2⟩⟩⟩⟩)), (by exact BK138.out), (by exact BK170.out), GW170.out, GE170.out, NB138_170.out, NB170_138.out, (by repeat (with_reducible exact HB.out))⟩)
                rintro ⟨v157, v164, v167, g7⟩ w54 ⟨hS_, h0_, h1_, h2_, h3_, h4_, h5_, h6_, h7_, h8_, h9_, h10_, h11_, h12_, h13_, h14_, h15_⟩
                have n0_ : Aside0 (Kd.V k33 33 w54 w.heap.size (fun k_ => (P0_ k_ ∨ w.heap.size ≤ k_) ∧ some k_ ≠ (v157 : Value).ownBlock ∧ some k_ ≠ (u7 : Value).ownBlock ∧ some k_ ≠ (.slice (some ad142) t139.length co22 : Value).ownBlock ∧ k_ ≠ g3 ∧ k_ ≠ g7) (.slice A153_4 ((rd_T33 t139 x9_1).f4).length c153_4) ((rd_T33 t139 x9_1).f4)) := ⟨h0_⟩
                have n1_ : Aside0 (Kd.V k33 33 w54 w.heap.size (fun k_ => (P0_ k_ ∨ w.heap.size ≤ k_) ∧ some k_ ≠ (v157 : Value).ownBlock ∧ some k_ ≠ (u7 : Value).ownBlock ∧ some k_ ≠ (.slice (some ad142) t139.length co22 : Value).ownBlock ∧ k_ ≠ g3 ∧ k_ ≠ g7) (.slice A153_5 ((rd_T33 t139 x9_1).f5).length c153_5) ((rd_T33 t139 x9_1).f5)) := ⟨h1_⟩
                have n2_ : Aside0 (Kd.V k33 33 w54 w.heap.size (fun k_ => (P0_ k_ ∨ w.heap.size ≤ k_) ∧ some k_ ≠ (v157 : Value).ownBlock ∧ some k_ ≠ (u7 : Value).ownBlock ∧ some k_ ≠ (.slice (some ad142) t139.length co22 : Value).ownBlock ∧ k_ ≠ g3 ∧ k_ ≠ g7) (.slice A154_4 ((rd_T33 t139 x9_1).f4).length c154_4) ((rd_T33 t139 x9_1).f4)) := ⟨h2_⟩
                have n3_ : Aside0 (Kd.V k33 33 w54 w.heap.size (fun k_ => (P0_ k_ ∨ w.heap.size ≤ k_) ∧ some k_ ≠ (v157 : Value).ownBlock ∧ some k_ ≠ (u7 : Value).ownBlock ∧ some k_ ≠ (.slice (some ad142) t139.length co22 : Value).ownBlock ∧ k_ ≠ g3 ∧ k_ ≠ g7) (.slice A154_5 ((rd_T33 t139 x9_1).f5).length c154_5) ((rd_T33 t139 x9_1).f5)) := ⟨h3_⟩
                have n4_ : Aside0 (Kd.R k42 42 w54 w.heap.size (fun k_ => (w.heap.size ≤ k_) ∧ some k_ ≠ (u7 : Value).ownBlock) v157 t156) := ⟨h4_⟩
                have n5_ : Aside0 (Kd.V k33 33 w54 w.heap.size (fun k_ => (P0_ k_ ∨ w.heap.size ≤ k_) ∧ some k_ ≠ (v157 : Value).ownBlock ∧ some k_ ≠ (u7 : Value).ownBlock ∧ some k_ ≠ (.slice (some ad142) t139.length co22 : Value).ownBlock ∧ k_ ≠ g3 ∧ k_ ≠ g7) v164 t163) := ⟨h5_⟩
                have n6_ : Aside0 (Kd.V k33 33 w54 w.heap.size (fun k_ => (P0_ k_ ∨ w.heap.size ≤ k_) ∧ some k_ ≠ (v157 : Value).ownBlock ∧ some k_ ≠ (u7 : Value).ownBlock ∧ some k_ ≠ (.slice (some ad142) t139.length co22 : Value).ownBlock ∧ k_ ≠ g3 ∧ k_ ≠ g7) v167 t166) := ⟨h6_⟩
                have n7_ : Aside0 (Kd.R k42 42 w54 w.heap.size (fun k_ => (w.heap.size ≤ k_) ∧ some k_ ≠ (v157 : Value).ownBlock) u7 x7_20) := ⟨h7_⟩
                have n8_ : Aside0 (Kd.N k33 33 w54 w.heap.size (fun k_ => (P0_ k_ ∨ w.heap.size ≤ k_) ∧ some k_ ≠ (v157 : Value).ownBlock ∧ some k_ ≠ (u7 : Value).ownBlock ∧ k_ ≠ g3 ∧ k_ ≠ g7) (.slice (some ad142) t139.length co22) t139) := ⟨h8_⟩
                have n9_ : Aside0 (w54.heap[g3]? = some (.cells #[.int .i64 x139000_1, .string x139001_1, .int .i64 x139002_1, .int .i64 x139003_1, .slice none 0 0, .slice none 0 0] 33 (0, 0))) := ⟨h9_⟩
                have n10_ : Aside0 (w54.heap[g7]? = some (.cells #[.int .i64 0, .string (⟨#[]⟩ : ByteArray), .int .i64 0, .int .i64 0, .slice none 0 0, .slice none 0 0] 33 (0, 0))) := ⟨h10_⟩
                have n11_ : Aside0 (w.heap.size ≤ g7) := ⟨h11_⟩
                have n12_ : Aside0 (w.heap.size ≤ g7) := ⟨h12_⟩
                have n13_ : Aside0 (g3 ≠ g7) := ⟨h13_⟩
                have n14_ : Aside0 (g7 ≠ g3) := ⟨h14_⟩
                have n15_ : Aside0 (Below w.heap.size w w54) := ⟨h15_⟩
                clear HO_7
                clear HO_8
                clear HL153_4
                clear HL153_5
                clear BK138
                clear HR153_4
                clear HR153_5
                clear HB
                clear h0_ h1_ h2_ h3_ h4_ h5_ h6_ h7_ h8_ h9_ h10_ h11_ h12_ h13_ h14_ h15_
                have HL153_4 := n0_
                have HL153_5 := n1_
                have HL154_4 := n2_
                have HL154_5 := n3_
                have HO158 := n4_
                have HO165 := n5_
                have HO168 := n6_
                have HO_7 := n7_
                have HO_8 := n8_
                have BK138 := n9_
                have BK170 := n10_
                have GW170 := n11_
                have GE170 := n12_
                have NB138_170 := n13_
                have NB170_138 := n14_
                have HB := n15_
                clear n0_ n1_ n2_ n3_ n4_ n5_ n6_ n7_ n8_ n9_ n10_ n11_ n12_ n13_ n14_ n15_
                have hh : w54.cell? (ad142.add ((x9_1).toNat * 6)) = some (.int .i64 ((rd_T33 t139 x9_1).f0)) ∧ w54.cell? ⟨(ad142.add ((x9_1).toNat * 6)).block, (ad142.add ((x9_1).toNat * 6)).off + 1, none⟩ = some (.string ((rd_T33 t139 x9_1).f1)) ∧ w54.cell? ⟨(ad142.add ((x9_1).toNat * 6)).block, (ad142.add ((x9_1).toNat * 6)).off + 2, none⟩ = some (.int .i64 ((rd_T33 t139 x9_1).f2)) ∧ w54.cell? ⟨(ad142.add ((x9_1).toNat * 6)).block, (ad142.add ((x9_1).toNat * 6)).off + 3, none⟩ = some (.int .i64 ((rd_T33 t139 x9_1).f3)) ∧ w54.cell? ⟨(ad142.add ((x9_1).toNat * 6)).block, (ad142.add ((x9_1).toNat * 6)).off + 4, none⟩ = some (.slice A154_4 ((rd_T33 t139 x9_1).f4).length c154_4) ∧ w54.cell? ⟨(ad142.add ((x9_1).toNat * 6)).block, (ad142.add ((x9_1).toNat * 6)).off + 5, none⟩ = some (.slice A154_5 ((rd_T33 t139 x9_1).f5).length c154_5) ∧ w54.cell? (ad147.add ((t144).toNat * 6)) = some (.int .i64 ((rd_T33 l1 t144).f0)) ∧ w54.cell? ⟨(ad147.add ((t144).toNat * 6)).block, (ad147.add ((t144).toNat * 6)).off + 1, none⟩ = some (.string ((rd_T33 l1 t144).f1)) ∧ w54.cell? ⟨(ad147.add ((t144).toNat * 6)).block, (ad147.add ((t144).toNat * 6)).off + 2, none⟩ = some (.int .i64 ((rd_T33 l1 t144).f2)) ∧ w54.cell? ⟨(ad147.add ((t144).toNat * 6)).block, (ad147.add ((t144).toNat * 6)).off + 3, none⟩ = some (.int .i64 ((rd_T33 l1 t144).f3)) ∧ w54.cell? ⟨(ad147.add ((t144).toNat * 6)).block, (ad147.add ((t144).toNat * 6)).off + 4, none⟩ = some (.slice A155_4 ((rd_T33 l1 t144).f4).length c155_4) ∧ w54.cell? ⟨(ad147.add ((t144).toNat * 6)).block, (ad147.add ((t144).toNat * 6)).off + 5, none⟩ = some (.slice A155_5 ((rd_T33 l1 t144).f5).length c155_5) := hS_
                obtain ⟨Ao59, co59, eo59⟩ := Kd.V_slice HO165.out
                (subst eo59)
                obtain ⟨Ao61, co61, eo61⟩ := Kd.V_slice HO168.out
                (subst eo61)
                refine norm_ (a' := ?_) ?_ ?_
                rotate_left
                ·simp only [putAll, Act.put, List.setIfInBounds_toArray, List.set_cons_zero, List.set_cons_succ]
                 rfl
                refine pure_ (i := 16) (N := some 11) (v := ?_) (a' := ?_) #[true, true, true, true, true, true, true, true, true, true, true, true, true, true, true, true, true, false, false] rfl rfl (any_of HT_.out (by kernel_rfl)) (fun _ _ _ h => h) (Or.inl ⟨by rfl, ?_⟩) ?_ ?_
                rotate_left
                ·intro w'
                 go_simp
                 with_reducible rfl
                rotate_left
                ·simp only [Act.put, List.setIfInBounds_toArray, List.set_cons_zero, List.set_cons_succ, i64_w, i32_w]
                 rfl
                refine one_ (i := 17) (N := none) #[true, true, true, true, true, true, true, true, true, true, true, true, true, true, true, true, true, true, false] rfl rfl (one_of HT_.out (by kernel_rfl)) (by decide) (fun K hK => ?_)
                have hs55 : w54.cell? ⟨g7, 0, none⟩ = some (.int .i64 0) := (blk_cell BK170.out 0).trans rfl
                have hfs55 := blk_frozen BK170.out 0
                have hns55_0 := NB138_170.out
                have hms55_0 := NB170_138.out
                have hs56 : w54.cell? ⟨g7, 1, none⟩ = some (.string (⟨#[]⟩ : ByteArray)) := (blk_cell BK170.out 1).trans rfl
                have hfs56 := blk_frozen BK170.out 1
                have hns56_0 := NB138_170.out
                have hms56_0 := NB170_138.out
                have hs57 : w54.cell? ⟨g7, 2, none⟩ = some (.int .i64 0) := (blk_cell BK170.out 2).trans rfl
                have hfs57 := blk_frozen BK170.out 2
                have hns57_0 := NB138_170.out
                have hms57_0 := NB170_138.out
                have hs58 : w54.cell? ⟨g7, 3, none⟩ = some (.int .i64 0) := (blk_cell BK170.out 3).trans rfl
                have hfs58 := blk_frozen BK170.out 3
                have hns58_0 := NB138_170.out
                have hms58_0 := NB170_138.out
                have hs60 : w54.cell? ⟨g7, 4, none⟩ = some (.slice none 0 0) := (blk_cell BK170.out 4).trans rfl
                have hfs60 := blk_frozen BK170.out 4
                have hns60_0 := NB138_170.out
                have hms60_0 := NB170_138.out
                have hs62 : w54.cell? ⟨g7, 5, none⟩ = some (.slice none 0 0) := (blk_cell BK170.out 5).trans rfl
                have hfs62 := blk_frozen BK170.out 5
                have hns62_0 := NB138_170.out
                have hms62_0 := NB170_138.out
                refine skip_ (w1 := ?_) (by rfl) rfl ?_ ?_
                rotate_left
                ·go_simp
                 rfl
                refine hK.out _ _ ⟨((cell_far (p := ⟨g7, _, none⟩) (by (rw [add_block]; exact Kd.own_blk (Kd.N_away HO_8.out (fun _ hk => hk.2.2.2.2)))) _).trans (((cell_far (p := ⟨g7, _, none⟩) (by (rw [add_block]; exact Kd.own_blk (Kd.N_away HO_8.out (fun _ hk => hk.2.2.2.2)))) _).trans (((cell_far (p := ⟨g7, _, none⟩) (by (rw [add_block]; exact Kd.own_blk (Kd.N_away HO_8.out (fun _ hk => hk.2.2.2.2)))) _).trans (((cell_far (p := ⟨g7, _, none⟩) (by (rw [add_block]; exact Kd.own_blk (Kd.N_away HO_8.out (fun _ hk => hk.2.2.2.2)))) _).trans (((cell_far (p := ⟨g7, _, none⟩) (by (rw [add_block]; exact Kd.own_blk (Kd.N_away HO_8.out (fun _ hk => hk.2.2.2.2)))) _).trans (((cell_far (p := ⟨g7, _, none⟩) (by (rw [add_block]; exact Kd.own_blk (Kd.N_away HO_8.out (fun _ hk => hk.2.2.2.2)))) _).trans (hh.1)))))))))))), ((cell_far (p := ⟨g7, _, none⟩) (by (rw [add_block]; exact Kd.own_blk (Kd.N_away HO_8.out (fun _ hk => hk.2.2.2.2)))) _).trans (((cell_far (p := ⟨g7, _, none⟩) (by (rw [add_block]; exact Kd.own_blk (Kd.N_away HO_8.out (fun _ hk => hk.2.2.2.2)))) _).trans (((cell_far (p := ⟨g7, _, none⟩) (by (rw [add_block]; exact Kd.own_blk (Kd.N_away HO_8.out (fun _ hk => hk.2.2.2.2)))) _).trans (((cell_far (p := ⟨g7, _, none⟩) (by (rw [add_block]; exact Kd.own_blk (Kd.N_away HO_8.out (fun _ hk => hk.2.2.2.2)))) _).trans (((cell_far (p := ⟨g7, _, none⟩) (by (rw [add_block]; exact Kd.own_blk (Kd.N_away HO_8.out (fun _ hk => hk.2.2.2.2)))) _).trans (((cell_far (p := ⟨g7, _, none⟩) (by (rw [add_block]; exact Kd.own_blk (Kd.N_away HO_8.out (fun _ hk => hk.2.2.2.2)))) _).trans (hh.2.1)))))))))))), ((cell_far (p := ⟨g7, _, none⟩) (by (rw [add_block]; exact Kd.own_blk (Kd.N_away HO_8.out (fun _ hk => hk.2.2.2.2)))) _).trans (((cell_far (p := ⟨g7, _, none⟩) (by (rw [add_block]; exact Kd.own_blk (Kd.N_away HO_8.out (fun _ hk => hk.2.2.2.2)))) _).trans (((cell_far (p := ⟨g7, _, none⟩) (by (rw [add_block]; exact Kd.own_blk (Kd.N_away HO_8.out (fun _ hk => hk.2.2.2.2)))) _).trans (((cell_far (p := ⟨g7, _, none⟩) (by (rw [add_block]; exact Kd.own_blk (Kd.N_away HO_8.out (fun _ hk => hk.2.2.2.2)))) _).trans (((cell_far (p := ⟨g7, _, none⟩) (by (rw [add_block]; exact Kd.own_blk (Kd.N_away HO_8.out (fun _ hk => hk.2.2.2.2)))) _).trans (((cell_far (p := ⟨g7, _, none⟩) (by (rw [add_block]; exact Kd.own_blk (Kd.N_away HO_8.out (fun _ hk => hk.2.2.2.2)))) _).trans (hh.2.2.1)))))))))))), ((cell_far (p := ⟨g7, _, none⟩) (by (rw [add_block]; exact Kd.own_blk (Kd.N_away HO_8.out (fun _ hk => hk.2.2.2.2)))) _).trans (((cell_far (p := ⟨g7, _, none⟩) (by (rw [add_block]; exact Kd.own_blk (Kd.N_away HO_8.out (fun _ hk => hk.2.2.2.2)))) _).trans (((cell_far (p := ⟨g7, _, none⟩) (by (rw [add_block]; exact Kd.own_blk (Kd.N_away HO_8.out (fun _ hk => hk.2.2.2.2)))) _).trans (((cell_far (p := ⟨g7, _, none⟩) (by (rw [add_block]; exact Kd.own_blk (Kd.N_away HO_8.out (fun _ hk => hk.2.2.2.2)))) _).trans (((cell_far (p := ⟨g7, _, none⟩) (by (rw [add_block]; exact Kd.own_blk (Kd.N_away HO_8.out (fun _ hk => hk.2.2.2.2)))) _).trans (((cell_far (p := ⟨g7, _, none⟩) (by (rw [add_block]; exact Kd.own_blk (Kd.N_away HO_8.out (fun _ hk => hk.2.2.2.2)))) _).trans (hh.2.2.2.1)))))))))))), ((cell_far (p := ⟨g7, _, none⟩) (by (rw [add_block]; exact Kd.own_blk (Kd.N_away HO_8.out (fun _ hk => hk.2.2.2.2)))) _).trans (((cell_far (p := ⟨g7, _, none⟩) (by (rw [add_block]; exact Kd.own_blk (Kd.N_away HO_8.out (fun _ hk => hk.2.2.2.2)))) _).trans (((cell_far (p := ⟨g7, _, none⟩) (by (rw [add_block]; exact Kd.own_blk (Kd.N_away HO_8.out (fun _ hk => hk.2.2.2.2)))) _).trans (((cell_far (p := ⟨g7, _, none⟩) (by (rw [add_block]; exact Kd.own_blk (Kd.N_away HO_8.out (fun _ hk => hk.2.2.2.2)))) _).trans (((cell_far (p := ⟨g7, _, none⟩) (by (rw [add_block]; exact Kd.own_blk (Kd.N_away HO_8.out (fun _ hk => hk.2.2.2.2)))) _).trans (((cell_far (p := ⟨g7, _, none⟩) (by (rw [add_block]; exact Kd.own_blk (Kd.N_away HO_8.out (fun _ hk => hk.2.2.2.2)))) _).trans (hh.2.2.2.2.1)))))))))))), ((cell_far (p := ⟨g7, _, none⟩) (by (rw [add_block]; exact Kd.own_blk (Kd.N_away HO_8.out (fun _ hk => hk.2.2.2.2)))) _).trans (((cell_far (p := ⟨g7, _, none⟩) (by (rw [add_block]; exact Kd.own_blk (Kd.N_away HO_8.out (fun _ hk => hk.2.2.2.2)))) _).trans (((cell_far (p := ⟨g7, _, none⟩) (by (rw [add_block]; exact Kd.own_blk (Kd.N_away HO_8.out (fun _ hk => hk.2.2.2.2)))) _).trans (((cell_far (p := ⟨g7, _, none⟩) (by (rw [add_block]; exact Kd.own_blk (Kd.N_away HO_8.out (fun _ hk => hk.2.2.2.2)))) _).trans (((cell_far (p := ⟨g7, _, none⟩) (by (rw [add_block]; exact Kd.own_blk (Kd.N_away HO_8.out (fun _ hk => hk.2.2.2.2)))) _).trans (((cell_far (p := ⟨g7, _, none⟩) (by (rw [add_block]; exact Kd.own_blk (Kd.N_away HO_8.out (fun _ hk => hk.2.2.2.2)))) _).trans (hh.2.2.2.2.2.1)))))))))))), ((cell_far (p := ⟨g7, _, none⟩) (by exact Nat.ne_of_lt (Nat.lt_of_lt_of_le (by have := bl9 _ _ hw155_0; exact this) GW170.out)) _).trans (((cell_far (p := ⟨g7, _, none⟩) (by exact Nat.ne_of_lt (Nat.lt_of_lt_of_le (by have := bl9 _ _ hw155_0; exact this) GW170.out)) _).trans (((cell_far (p := ⟨g7, _, none⟩) (by exact Nat.ne_of_lt (Nat.lt_of_lt_of_le (by have := bl9 _ _ hw155_0; exact this) GW170.out)) _).trans (((cell_far (p := ⟨g7, _, none⟩) (by exact Nat.ne_of_lt (Nat.lt_of_lt_of_le (by have := bl9 _ _ hw155_0; exact this) GW170.out)) _).trans (((cell_far (p := ⟨g7, _, none⟩) (by exact Nat.ne_of_lt (Nat.lt_of_lt_of_le (by have := bl9 _ _ hw155_0; exact this) GW170.out)) _).trans (((cell_far (p := ⟨g7, _, none⟩) (by exact Nat.ne_of_lt (Nat.lt_of_lt_of_le (by have := bl9 _ _ hw155_0; exact this) GW170.out)) _).trans (hh.2.2.2.2.2.2.1)))))))))))), ((cell_far (p := ⟨g7, _, none⟩) (by exact Nat.ne_of_lt (Nat.lt_of_lt_of_le (by have := bl9 _ _ hw155_1; exact this) GW170.out)) _).trans (((cell_far (p := ⟨g7, _, none⟩) (by exact Nat.ne_of_lt (Nat.lt_of_lt_of_le (by have := bl9 _ _ hw155_1; exact this) GW170.out)) _).trans (((cell_far (p := ⟨g7, _, none⟩) (by exact Nat.ne_of_lt (Nat.lt_of_lt_of_le (by have := bl9 _ _ hw155_1; exact this) GW170.out)) _).trans (((cell_far (p := ⟨g7, _, none⟩) (by exact Nat.ne_of_lt (Nat.lt_of_lt_of_le (by have := bl9 _ _ hw155_1; exact this) GW170.out)) _).trans (((cell_far (p := ⟨g7, _, none⟩) (by exact Nat.ne_of_lt (Nat.lt_of_lt_of_le (by have := bl9 _ _ hw155_1; exact this) GW170.out)) _).trans (((cell_far (p := ⟨g7, _, none⟩) (by exact Nat.ne_of_lt (Nat.lt_of_lt_of_le (by have := bl9 _ _ hw155_1; exact this) GW170.out)) _).trans (hh.2.2.2.2.2.2.2.1)))))))))))), ((cell_far (p := ⟨g7, _, none⟩) (by exact Nat.ne_of_lt (Nat.lt_of_lt_of_le (by have := bl9 _ _ hw155_2; exact this) GW170.out)) _).trans (((cell_far (p := ⟨g7, _, none⟩) (by exact Nat.ne_of_lt (Nat.lt_of_lt_of_le (by have := bl9 _ _ hw155_2; exact this) GW170.out)) _).trans (((cell_far (p := ⟨g7, _, none⟩) (by exact Nat.ne_of_lt (Nat.lt_of_lt_of_le (by have := bl9 _ _ hw155_2; exact this) GW170.out)) _).trans (((cell_far (p := ⟨g7, _, none⟩) (by exact Nat.ne_of_lt (Nat.lt_of_lt_of_le (by have := bl9 _ _ hw155_2; exact this) GW170.out)) _).trans (((cell_far (p := ⟨g7, _, none⟩) (by exact Nat.ne_of_lt (Nat.lt_of_lt_of_le (by have := bl9 _ _ hw155_2; exact this) GW170.out)) _).trans (((cell_far (p := ⟨g7, _, none⟩) (by exact Nat.ne_of_lt (Nat.lt_of_lt_of_le (by have := bl9 _ _ hw155_2; exact this) GW170.out)) _).trans (hh.2.2.2.2.2.2.2.2.1)))))))))))), ((cell_far (p := ⟨g7, _, none⟩) (by exact Nat.ne_of_lt (Nat.lt_of_lt_of_le (by have := bl9 _ _ hw155_3; exact this) GW170.out)) _).trans (((cell_far (p := ⟨g7, _, none⟩) (by exact Nat.ne_of_lt (Nat.lt_of_lt_of_le (by have := bl9 _ _ hw155_3; exact this) GW170.out)) _).trans (((cell_far (p := ⟨g7, _, none⟩) (by exact Nat.ne_of_lt (Nat.lt_of_lt_of_le (by have := bl9 _ _ hw155_3; exact this) GW170.out)) _).trans (((cell_far (p := ⟨g7, _, none⟩) (by exact Nat.ne_of_lt (Nat.lt_of_lt_of_le (by have := bl9 _ _ hw155_3; exact this) GW170.out)) _).trans (((cell_far (p := ⟨g7, _, none⟩) (by exact Nat.ne_of_lt (Nat.lt_of_lt_of_le (by have := bl9 _ _ hw155_3; exact this) GW170.out)) _).trans (((cell_far (p := ⟨g7, _, none⟩) (by exact Nat.ne_of_lt (Nat.lt_of_lt_of_le (by have := bl9 _ _ hw155_3; exact this) GW170.out)) _).trans (hh.2.2.2.2.2.2.2.2.2.1)))))))))))), ((cell_far (p := ⟨g7, _, none⟩) (by exact Nat.ne_of_lt (Nat.lt_of_lt_of_le (by have := bl9 _ _ hw155_4; exact this) GW170.out)) _).trans (((cell_far (p := ⟨g7, _, none⟩) (by exact Nat.ne_of_lt (Nat.lt_of_lt_of_le (by have := bl9 _ _ hw155_4; exact this) GW170.out)) _).trans (((cell_far (p := ⟨g7, _, none⟩) (by exact Nat.ne_of_lt (Nat.lt_of_lt_of_le (by have := bl9 _ _ hw155_4; exact this) GW170.out)) _).trans (((cell_far (p := ⟨g7, _, none⟩) (by exact Nat.ne_of_lt (Nat.lt_of_lt_of_le (by have := bl9 _ _ hw155_4; exact this) GW170.out)) _).trans (((cell_far (p := ⟨g7, _, none⟩) (by exact Nat.ne_of_lt (Nat.lt_of_lt_of_le (by have := bl9 _ _ hw155_4; exact this) GW170.out)) _).trans (((cell_far (p := ⟨g7, _, none⟩) (by exact Nat.ne_of_lt (Nat.lt_of_lt_of_le (by have := bl9 _ _ hw155_4; exact this) GW170.out)) _).trans (hh.2.2.2.2.2.2.2.2.2.2.1)))))))))))), ((cell_far (p := ⟨g7, _, none⟩) (by exact Nat.ne_of_lt (Nat.lt_of_lt_of_le (by have := bl9 _ _ hw155_5; exact this) GW170.out)) _).trans (((cell_far (p := ⟨g7, _, none⟩) (by exact Nat.ne_of_lt (Nat.lt_of_lt_of_le (by have := bl9 _ _ hw155_5; exact this) GW170.out)) _).trans (((cell_far (p := ⟨g7, _, none⟩) (by exact Nat.ne_of_lt (Nat.lt_of_lt_of_le (by have := bl9 _ _ hw155_5; exact this) GW170.out)) _).trans (((cell_far (p := ⟨g7, _, none⟩) (by exact Nat.ne_of_lt (Nat.lt_of_lt_of_le (by have := bl9 _ _ hw155_5; exact this) GW170.out)) _).trans (((cell_far (p := ⟨g7, _, none⟩) (by exact Nat.ne_of_lt (Nat.lt_of_lt_of_le (by have := bl9 _ _ hw155_5; exact this) GW170.out)) _).trans (((cell_far (p := ⟨g7, _, none⟩) (by exact Nat.ne_of_lt (Nat.lt_of_lt_of_le (by have := bl9 _ _ hw155_5; exact this) GW170.out)) _).trans (hh.2.2.2.2.2.2.2.2.2.2.2))))))))))))⟩ (fun hh => ?_)
                clear hK K
                refine pure_ (i := 18) (N := some 13) (v := ?_) (a' := ?_) #[true, true, true, true, true, true, true, true, true, true, true, true, true, true, true, true, true, true, true] rfl rfl (any_of HT_.out (by kernel_rfl)) (fun _ _ _ h => h) (Or.inl ⟨by rfl, ?_⟩) ?_ ?_
                rotate_left
                ·intro w'
                 go_simp
                 with_reducible rfl
                rotate_left
                ·simp only [Act.put, List.setIfInBounds_toArray, List.set_cons_zero, List.set_cons_succ, i64_w, i32_w]
                 rfl
                refine done_ (done_of HT_.out (by kernel_rfl)) ?_
                try go_wp2
                have n0_ : Aside0 (Kd.R k42 42 ((((((w54.setCell ⟨g7, 0, none⟩ (.int .i64 t159)).setCell ⟨g7, 1, none⟩ (.string t160)).setCell ⟨g7, 2, none⟩ (.int .i64 t161)).setCell ⟨g7, 3, none⟩ (.int .i64 t162)).setCell ⟨g7, 4, none⟩ (.slice Ao59 t163.length co59)).setCell ⟨g7, 5, none⟩ (.slice Ao61 t166.length co61)) w.heap.size (fun k_ => (w.heap.size ≤ k_) ∧ some k_ ≠ (v157 : Value).ownBlock) u7 x7_20) := ⟨by exact Kd.R_mono (Kd.R_far (p := ⟨g7, 5, none⟩) (Kd.R_far (p := ⟨g7, 4, none⟩) (Kd.R_far (p := ⟨g7, 3, none⟩) (Kd.R_far (p := ⟨g7, 2, none⟩) (Kd.R_far (p := ⟨g7, 1, none⟩) (Kd.R_far (p := ⟨g7, 0, none⟩) (Kd.R_types HO_7.out BK170.out (by decide)) (fun _ hk => hk.2) (.int .i64 t159)) (fun _ hk => hk.2) (.string t160)) (fun _ hk => hk.2) (.int .i64 t161)) (fun _ hk => hk.2) (.int .i64 t162)) (fun _ hk => hk.2) (.slice Ao59 t163.length co59)) (fun _ hk => hk.2) (.slice Ao61 t166.length co61)) (fun _ hk => ⟨hk.1.1, hk.1.2⟩)⟩
                have n1_ : Aside0 (Kd.N k33 33 ((((((w54.setCell ⟨g7, 0, none⟩ (.int .i64 t159)).setCell ⟨g7, 1, none⟩ (.string t160)).setCell ⟨g7, 2, none⟩ (.int .i64 t161)).setCell ⟨g7, 3, none⟩ (.int .i64 t162)).setCell ⟨g7, 4, none⟩ (.slice Ao59 t163.length co59)).setCell ⟨g7, 5, none⟩ (.slice Ao61 t166.length co61)) w.heap.size (fun k_ => (P0_ k_ ∨ w.heap.size ≤ k_) ∧ some k_ ≠ (u7 : Value).ownBlock ∧ some k_ ≠ (v157 : Value).ownBlock ∧ k_ ≠ g3 ∧ k_ ≠ g7) (.slice (some ad142) t139.length co22) t139) := ⟨by exact Kd.N_mono (Kd.N_far (p := ⟨g7, 5, none⟩) (Kd.N_far (p := ⟨g7, 4, none⟩) (Kd.N_far (p := ⟨g7, 3, none⟩) (Kd.N_far (p := ⟨g7, 2, none⟩) (Kd.N_far (p := ⟨g7, 1, none⟩) (Kd.N_far (p := ⟨g7, 0, none⟩) (Kd.N_mono HO_8.out (fun k_ hk => (⟨hk, hk.2.2.2.2⟩ : _ ∧ k_ ≠ g7))) (fun _ hk => hk.2) (.int .i64 t159)) (fun _ hk => hk.2) (.string t160)) (fun _ hk => hk.2) (.int .i64 t161)) (fun _ hk => hk.2) (.int .i64 t162)) (fun _ hk => hk.2) (.slice Ao59 t163.length co59)) (fun _ hk => hk.2) (.slice Ao61 t166.length co61)) (fun _ hk => ⟨hk.1.1, ⟨hk.1.2.2.1, ⟨hk.1.2.1, ⟨hk.1.2.2.2.1, hk.1.2.2.2.2⟩⟩⟩⟩)⟩
                have n2_ : Aside0 (Kd.V k33 33 ((((((w54.setCell ⟨g7, 0, none⟩ (.int .i64 t159)).setCell ⟨g7, 1, none⟩ (.string t160)).setCell ⟨g7, 2, none⟩ (.int .i64 t161)).setCell ⟨g7, 3, none⟩ (.int .i64 t162)).setCell ⟨g7, 4, none⟩ (.slice Ao59 t163.length co59)).setCell ⟨g7, 5, none⟩ (.slice Ao61 t166.length co61)) w.heap.size (fun k_ => (P0_ k_ ∨ w.heap.size ≤ k_) ∧ some k_ ≠ (u7 : Value).ownBlock ∧ some k_ ≠ (.slice (some ad142) t139.length co22 : Value).ownBlock ∧ some k_ ≠ (v157 : Value).ownBlock ∧ k_ ≠ g3 ∧ k_ ≠ g7) (.slice A153_4 ((rd_T33 t139 x9_1).f4).length c153_4) ((rd_T33 t139 x9_1).f4)) := ⟨by exact Kd.V_mono (Kd.V_far (p := ⟨g7, 5, none⟩) (Kd.V_far (p := ⟨g7, 4, none⟩) (Kd.V_far (p := ⟨g7, 3, none⟩) (Kd.V_far (p := ⟨g7, 2, none⟩) (Kd.V_far (p := ⟨g7, 1, none⟩) (Kd.V_far (p := ⟨g7, 0, none⟩) (Kd.V_mono HL153_4.out (fun k_ hk => (⟨hk, hk.2.2.2.2.2⟩ : _ ∧ k_ ≠ g7))) (fun _ hk => hk.2) (.int .i64 t159)) (fun _ hk => hk.2) (.string t160)) (fun _ hk => hk.2) (.int .i64 t161)) (fun _ hk => hk.2) (.int .i64 t162)) (fun _ hk => hk.2) (.slice Ao59 t163.length co59)) (fun _ hk => hk.2) (.slice Ao61 t166.length co61)) (fun _ hk => ⟨hk.1.1, ⟨hk.1.2.2.1, ⟨hk.1.2.2.2.1, ⟨hk.1.2.1, ⟨hk.1.2.2.2.2.1, hk.1.2.2.2.2.2⟩⟩⟩⟩⟩)⟩
                have n3_ : Aside0 (Kd.V k33 33 ((((((w54.setCell ⟨g7, 0, none⟩ (.int .i64 t159)).setCell ⟨g7, 1, none⟩ (.string t160)).setCell ⟨g7, 2, none⟩ (.int .i64 t161)).setCell ⟨g7, 3, none⟩ (.int .i64 t162)).setCell ⟨g7, 4, none⟩ (.slice Ao59 t163.length co59)).setCell ⟨g7, 5, none⟩ (.slice Ao61 t166.length co61)) w.heap.size (fun k_ => (P0_ k_ ∨ w.heap.size ≤ k_) ∧ some k_ ≠ (u7 : Value).ownBlock ∧ some k_ ≠ (.slice (some ad142) t139.length co22 : Value).ownBlock ∧ some k_ ≠ (v157 : Value).ownBlock ∧ k_ ≠ g3 ∧ k_ ≠ g7) (.slice A153_5 ((rd_T33 t139 x9_1).f5).length c153_5) ((rd_T33 t139 x9_1).f5)) := ⟨by exact Kd.V_mono (Kd.V_far (p := ⟨g7, 5, none⟩) (Kd.V_far (p := ⟨g7, 4, none⟩) (Kd.V_far (p := ⟨g7, 3, none⟩) (Kd.V_far (p := ⟨g7, 2, none⟩) (Kd.V_far (p := ⟨g7, 1, none⟩) (Kd.V_far (p := ⟨g7, 0, none⟩) (Kd.V_mono HL153_5.out (fun k_ hk => (⟨hk, hk.2.2.2.2.2⟩ : _ ∧ k_ ≠ g7))) (fun _ hk => hk.2) (.int .i64 t159)) (fun _ hk => hk.2) (.string t160)) (fun _ hk => hk.2) (.int .i64 t161)) (fun _ hk => hk.2) (.int .i64 t162)) (fun _ hk => hk.2) (.slice Ao59 t163.length co59)) (fun _ hk => hk.2) (.slice Ao61 t166.length co61)) (fun _ hk => ⟨hk.1.1, ⟨hk.1.2.2.1, ⟨hk.1.2.2.2.1, ⟨hk.1.2.1, ⟨hk.1.2.2.2.2.1, hk.1.2.2.2.2.2⟩⟩⟩⟩⟩)⟩
                have n4_ : Aside0 (Kd.V k33 33 ((((((w54.setCell ⟨g7, 0, none⟩ (.int .i64 t159)).setCell ⟨g7, 1, none⟩ (.string t160)).setCell ⟨g7, 2, none⟩ (.int .i64 t161)).setCell ⟨g7, 3, none⟩ (.int .i64 t162)).setCell ⟨g7, 4, none⟩ (.slice Ao59 t163.length co59)).setCell ⟨g7, 5, none⟩ (.slice Ao61 t166.length co61)) w.heap.size (fun k_ => (P0_ k_ ∨ w.heap.size ≤ k_) ∧ some k_ ≠ (u7 : Value).ownBlock ∧ some k_ ≠ (.slice (some ad142) t139.length co22 : Value).ownBlock ∧ some k_ ≠ (v157 : Value).ownBlock ∧ k_ ≠ g3 ∧ k_ ≠ g7) (.slice A154_4 ((rd_T33 t139 x9_1).f4).length c154_4) ((rd_T33 t139 x9_1).f4)) := ⟨by exact Kd.V_mono (Kd.V_far (p := ⟨g7, 5, none⟩) (Kd.V_far (p := ⟨g7, 4, none⟩) (Kd.V_far (p := ⟨g7, 3, none⟩) (Kd.V_far (p := ⟨g7, 2, none⟩) (Kd.V_far (p := ⟨g7, 1, none⟩) (Kd.V_far (p := ⟨g7, 0, none⟩) (Kd.V_mono HL154_4.out (fun k_ hk => (⟨hk, hk.2.2.2.2.2⟩ : _ ∧ k_ ≠ g7))) (fun _ hk => hk.2) (.int .i64 t159)) (fun _ hk => hk.2) (.string t160)) (fun _ hk => hk.2) (.int .i64 t161)) (fun _ hk => hk.2) (.int .i64 t162)) (fun _ hk => hk.2) (.slice Ao59 t163.length co59)) (fun _ hk => hk.2) (.slice Ao61 t166.length co61)) (fun _ hk => ⟨hk.1.1, ⟨hk.1.2.2.1, ⟨hk.1.2.2.2.1, ⟨hk.1.2.1, ⟨hk.1.2.2.2.2.1, hk.1.2.2.2.2.2⟩⟩⟩⟩⟩)⟩
                have n5_ : Aside0 (Kd.V k33 33 ((((((w54.setCell ⟨g7, 0, none⟩ (.int .i64 t159)).setCell ⟨g7, 1, none⟩ (.string t160)).setCell ⟨g7, 2, none⟩ (.int .i64 t161)).setCell ⟨g7, 3, none⟩ (.int .i64 t162)).setCell ⟨g7, 4, none⟩ (.slice Ao59 t163.length co59)).setCell ⟨g7, 5, none⟩ (.slice Ao61 t166.length co61)) w.heap.size (fun k_ => (P0_ k_ ∨ w.heap.size ≤ k_) ∧ some k_ ≠ (u7 : Value).ownBlock ∧ some k_ ≠ (.slice (some ad142) t139.length co22 : Value).ownBlock ∧ some k_ ≠ (v157 : Value).ownBlock ∧ k_ ≠ g3 ∧ k_ ≠ g7) (.slice A154_5 ((rd_T33 t139 x9_1).f5).length c154_5) ((rd_T33 t139 x9_1).f5)) := ⟨by exact Kd.V_mono (Kd.V_far (p := ⟨g7, 5, none⟩) (Kd.V_far (p := ⟨g7, 4, none⟩) (Kd.V_far (p := ⟨g7, 3, none⟩) (Kd.V_far (p := ⟨g7, 2, none⟩) (Kd.V_far (p := ⟨g7, 1, none⟩) (Kd.V_far (p := ⟨g7, 0, none⟩) (Kd.V_mono HL154_5.out (fun k_ hk => (⟨hk, hk.2.2.2.2.2⟩ : _ ∧ k_ ≠ g7))) (fun _ hk => hk.2) (.int .i64 t159)) (fun _ hk => hk.2) (.string t160)) (fun _ hk => hk.2) (.int .i64 t161)) (fun _ hk => hk.2) (.int .i64 t162)) (fun _ hk => hk.2) (.slice Ao59 t163.length co59)) (fun _ hk => hk.2) (.slice Ao61 t166.length co61)) (fun _ hk => ⟨hk.1.1, ⟨hk.1.2.2.1, ⟨hk.1.2.2.2.1, ⟨hk.1.2.1, ⟨hk.1.2.2.2.2.1, hk.1.2.2.2.2.2⟩⟩⟩⟩⟩)⟩
                have n6_ : Aside0 (Kd.R k42 42 ((((((w54.setCell ⟨g7, 0, none⟩ (.int .i64 t159)).setCell ⟨g7, 1, none⟩ (.string t160)).setCell ⟨g7, 2, none⟩ (.int .i64 t161)).setCell ⟨g7, 3, none⟩ (.int .i64 t162)).setCell ⟨g7, 4, none⟩ (.slice Ao59 t163.length co59)).setCell ⟨g7, 5, none⟩ (.slice Ao61 t166.length co61)) w.heap.size (fun k_ => (w.heap.size ≤ k_) ∧ some k_ ≠ (u7 : Value).ownBlock) v157 t156) := ⟨by exact Kd.R_mono (Kd.R_far (p := ⟨g7, 5, none⟩) (Kd.R_far (p := ⟨g7, 4, none⟩) (Kd.R_far (p := ⟨g7, 3, none⟩) (Kd.R_far (p := ⟨g7, 2, none⟩) (Kd.R_far (p := ⟨g7, 1, none⟩) (Kd.R_far (p := ⟨g7, 0, none⟩) (Kd.R_types HO158.out BK170.out (by decide)) (fun _ hk => hk.2) (.int .i64 t159)) (fun _ hk => hk.2) (.string t160)) (fun _ hk => hk.2) (.int .i64 t161)) (fun _ hk => hk.2) (.int .i64 t162)) (fun _ hk => hk.2) (.slice Ao59 t163.length co59)) (fun _ hk => hk.2) (.slice Ao61 t166.length co61)) (fun _ hk => ⟨hk.1.1, hk.1.2⟩)⟩
                have n7_ : Aside0 (Kd.V k33 33 ((((((w54.setCell ⟨g7, 0, none⟩ (.int .i64 t159)).setCell ⟨g7, 1, none⟩ (.string t160)).setCell ⟨g7, 2, none⟩ (.int .i64 t161)).setCell ⟨g7, 3, none⟩ (.int .i64 t162)).setCell ⟨g7, 4, none⟩ (.slice Ao59 t163.length co59)).setCell ⟨g7, 5, none⟩ (.slice Ao61 t166.length co61)) w.heap.size (fun k_ => (P0_ k_ ∨ w.heap.size ≤ k_) ∧ some k_ ≠ (u7 : Value).ownBlock ∧ some k_ ≠ (.slice (some ad142) t139.length co22 : Value).ownBlock ∧ some k_ ≠ (v157 : Value).ownBlock ∧ k_ ≠ g3 ∧ k_ ≠ g7) (.slice Ao59 t163.length co59) t163) := ⟨by exact Kd.V_mono (Kd.V_far (p := ⟨g7, 5, none⟩) (Kd.V_far (p := ⟨g7, 4, none⟩) (Kd.V_far (p := ⟨g7, 3, none⟩) (Kd.V_far (p := ⟨g7, 2, none⟩) (Kd.V_far (p := ⟨g7, 1, none⟩) (Kd.V_far (p := ⟨g7, 0, none⟩) (Kd.V_mono HO165.out (fun k_ hk => (⟨hk, hk.2.2.2.2.2⟩ : _ ∧ k_ ≠ g7))) (fun _ hk => hk.2) (.int .i64 t159)) (fun _ hk => hk.2) (.string t160)) (fun _ hk => hk.2) (.int .i64 t161)) (fun _ hk => hk.2) (.int .i64 t162)) (fun _ hk => hk.2) (.slice Ao59 t163.length co59)) (fun _ hk => hk.2) (.slice Ao61 t166.length co61)) (fun _ hk => ⟨hk.1.1, ⟨hk.1.2.2.1, ⟨hk.1.2.2.2.1, ⟨hk.1.2.1, ⟨hk.1.2.2.2.2.1, hk.1.2.2.2.2.2⟩⟩⟩⟩⟩)⟩
                have n8_ : Aside0 (Kd.V k33 33 ((((((w54.setCell ⟨g7, 0, none⟩ (.int .i64 t159)).setCell ⟨g7, 1, none⟩ (.string t160)).setCell ⟨g7, 2, none⟩ (.int .i64 t161)).setCell ⟨g7, 3, none⟩ (.int .i64 t162)).setCell ⟨g7, 4, none⟩ (.slice Ao59 t163.length co59)).setCell ⟨g7, 5, none⟩ (.slice Ao61 t166.length co61)) w.heap.size (fun k_ => (P0_ k_ ∨ w.heap.size ≤ k_) ∧ some k_ ≠ (u7 : Value).ownBlock ∧ some k_ ≠ (.slice (some ad142) t139.length co22 : Value).ownBlock ∧ some k_ ≠ (v157 : Value).ownBlock ∧ k_ ≠ g3 ∧ k_ ≠ g7) (.slice Ao61 t166.length co61) t166) := ⟨by exact Kd.V_mono (Kd.V_far (p := ⟨g7, 5, none⟩) (Kd.V_far (p := ⟨g7, 4, none⟩) (Kd.V_far (p := ⟨g7, 3, none⟩) (Kd.V_far (p := ⟨g7, 2, none⟩) (Kd.V_far (p := ⟨g7, 1, none⟩) (Kd.V_far (p := ⟨g7, 0, none⟩) (Kd.V_mono HO168.out (fun k_ hk => (⟨hk, hk.2.2.2.2.2⟩ : _ ∧ k_ ≠ g7))) (fun _ hk => hk.2) (.int .i64 t159)) (fun _ hk => hk.2) (.string t160)) (fun _ hk => hk.2) (.int .i64 t161)) (fun _ hk => hk.2) (.int .i64 t162)) (fun _ hk => hk.2) (.slice Ao59 t163.length co59)) (fun _ hk => hk.2) (.slice Ao61 t166.length co61)) (fun _ hk => ⟨hk.1.1, ⟨hk.1.2.2.1, ⟨hk.1.2.2.2.1, ⟨hk.1.2.1, ⟨hk.1.2.2.2.2.1, hk.1.2.2.2.2.2⟩⟩⟩⟩⟩)⟩
                have n9_ : Aside0 (((((((w54.setCell ⟨g7, 0, none⟩ (.int .i64 t159)).setCell ⟨g7, 1, none⟩ (.string t160)).setCell ⟨g7, 2, none⟩ (.int .i64 t161)).setCell ⟨g7, 3, none⟩ (.int .i64 t162)).setCell ⟨g7, 4, none⟩ (.slice Ao59 t163.length co59)).setCell ⟨g7, 5, none⟩ (.slice Ao61 t166.length co61)).heap[g3]? = some (.cells #[.int .i64 x139000_1, .string x139001_1, .int .i64 x139002_1, .int .i64 x139003_1, .slice none 0 0, .slice none 0 0] 33 (0, 0))) := ⟨by refine blk_far ?_ NB138_170.out _; refine blk_far ?_ NB138_170.out _; refine blk_far ?_ NB138_170.out _; refine blk_far ?_ NB138_170.out _; refine blk_far ?_ NB138_170.out _; refine blk_far ?_ NB138_170.out _; exact BK138.out⟩
                have n10_ : Aside0 (((((((w54.setCell ⟨g7, 0, none⟩ (.int .i64 t159)).setCell ⟨g7, 1, none⟩ (.string t160)).setCell ⟨g7, 2, none⟩ (.int .i64 t161)).setCell ⟨g7, 3, none⟩ (.int .i64 t162)).setCell ⟨g7, 4, none⟩ (.slice Ao59 t163.length co59)).setCell ⟨g7, 5, none⟩ (.slice Ao61 t166.length co61)).heap[g7]? = some (.cells #[.int .i64 t159, .string t160, .int .i64 t161, .int .i64 t162, .slice Ao59 t163.length co59, .slice Ao61 t166.length co61] 33 (0, 0))) := ⟨by refine blk_put (cs := #[.int .i64 t159, .string t160, .int .i64 t161, .int .i64 t162, .slice Ao59 t163.length co59, .slice none 0 0]) ?_ 5 _ rfl; refine blk_put (cs := #[.int .i64 t159, .string t160, .int .i64 t161, .int .i64 t162, .slice none 0 0, .slice none 0 0]) ?_ 4 _ rfl; refine blk_put (cs := #[.int .i64 t159, .string t160, .int .i64 t161, .int .i64 0, .slice none 0 0, .slice none 0 0]) ?_ 3 _ rfl; refine blk_put (cs := #[.int .i64 t159, .string t160, .int .i64 0, .int .i64 0, .slice none 0 0, .slice none 0 0]) ?_ 2 _ rfl; refine blk_put (cs := #[.int .i64 t159, .string (⟨#[]⟩ : ByteArray), .int .i64 0, .int .i64 0, .slice none 0 0, .slice none 0 0]) ?_ 1 _ rfl; refine blk_put (cs := #[.int .i64 0, .string (⟨#[]⟩ : ByteArray), .int .i64 0, .int .i64 0, .slice none 0 0, .slice none 0 0]) ?_ 0 _ rfl; exact BK170.out⟩
                have n11_ : Aside0 (Below w.heap.size w ((((((w54.setCell ⟨g7, 0, none⟩ (.int .i64 t159)).setCell ⟨g7, 1, none⟩ (.string t160)).setCell ⟨g7, 2, none⟩ (.int .i64 t161)).setCell ⟨g7, 3, none⟩ (.int .i64 t162)).setCell ⟨g7, 4, none⟩ (.slice Ao59 t163.length co59)).setCell ⟨g7, 5, none⟩ (.slice Ao61 t166.length co61))) := ⟨by repeat ((with_reducible first | exact HB.out | refine below_set ?_ GE170.out))⟩
                (try clear HO_7)
                (try clear HO_8)
                (try clear HL153_4)
                (try clear HL153_5)
                (try clear HL154_4)
                (try clear HL154_5)
                (try clear HO158)
                (try clear HO165)
                (try clear HO168)
                (try clear BK138)
                (try clear BK170)
                (try clear HB)
                generalize ((((((w54.setCell ⟨g7, 0, none⟩ (.int .i64 t159)).setCell ⟨g7, 1, none⟩ (.string t160)).setCell ⟨g7, 2, none⟩ (.int .i64 t161)).setCell ⟨g7, 3, none⟩ (.int .i64 t162)).setCell ⟨g7, 4, none⟩ (.slice Ao59 t163.length co59)).setCell ⟨g7, 5, none⟩ (.slice Ao61 t166.length co61)) = w63 at n0_ n1_ n2_ n3_ n4_ n5_ n6_ n7_ n8_ n9_ n10_ n11_ ⊢
                have HO_7 := n0_
                have HO_8 := n1_
                have HL153_4 := n2_
                have HL153_5 := n3_
                have HL154_4 := n4_
                have HL154_5 := n5_
                have HO158 := n6_
                have HO165 := n7_
                have HO168 := n8_
                have BK138 := n9_
                have BK170 := n10_
                have HB := n11_
                clear n0_ n1_ n2_ n3_ n4_ n5_ n6_ n7_ n8_ n9_ n10_ n11_
                have n0_ := am9 (Kd.R_drew HO_7.out)
                have n1_ := am9 (Kd.N_drew HO_8.out)
                have n2_ := am9 (Kd.V_drew HL153_4.out)
                have n3_ := am9 (Kd.V_drew HL153_5.out)
                have n4_ := am9 (Kd.V_drew HL154_4.out)
                have n5_ := am9 (Kd.V_drew HL154_5.out)
                have n6_ := am9 (Kd.R_drew HO158.out)
                have n7_ := am9 (Kd.V_drew HO165.out)
                have n8_ := am9 (Kd.V_drew HO168.out)
                have n9_ := am9 (blk_drew BK138.out)
                have n10_ := am9 (blk_drew BK170.out)
                have n11_ := am9 (below_drew1 HB.out)
                clear HO_7
                clear HO_8
                clear HL153_4
                clear HL153_5
                clear HL154_4
                clear HL154_5
                clear HO158
                clear HO165
                clear HO168
                clear BK138
                clear BK170
                clear HB
                have HO_7 := n0_
                have HO_8 := n1_
                have HL153_4 := n2_
                have HL153_5 := n3_
                have HL154_4 := n4_
                have HL154_5 := n5_
                have HO158 := n6_
                have HO165 := n7_
                have HO168 := n8_
                have BK138 := n9_
                have BK170 := n10_
                have HB := n11_
                clear n0_ n1_ n2_ n3_ n4_ n5_ n6_ n7_ n8_ n9_ n10_ n11_
                refine start_ (n := 4) (S := fun w' => w'.cell? ⟨g7, 0, none⟩ = some (.int .i64 t159) ∧ w'.cell? ⟨g7, 1, none⟩ = some (.string t160) ∧ w'.cell? ⟨g7, 2, none⟩ = some (.int .i64 t161) ∧ w'.cell? ⟨g7, 3, none⟩ = some (.int .i64 t162) ∧ w'.cell? ⟨g7, 4, none⟩ = some (.slice Ao59 t163.length co59) ∧ w'.cell? ⟨g7, 5, none⟩ = some (.slice Ao61 t166.length co61)) (ds := []) #[false, false, false, false] (by kernel_rfl) rfl rfl ⟨(blk_cell BK170.out 0).trans rfl, (blk_cell BK170.out 1).trans rfl, (blk_cell BK170.out 2).trans rfl, (blk_cell BK170.out 3).trans rfl, (blk_cell BK170.out 4).trans rfl, (blk_cell BK170.out 5).trans rfl⟩ (fun hh => ?_)
                generalize w63.drew = w64 at HO_7 HO_8 HL153_4 HL153_5 HL154_4 HL154_5 HO158 HO165 HO168 BK138 BK170 HB hh ⊢
                refine pure_ (i := 1) (N := some 4) (v := ?_) (a' := ?_) #[false, true, false, false] rfl rfl (by kernel_rfl) (fun _ _ _ h => h) (Or.inl ⟨by rfl, ?_⟩) ?_ ?_
                rotate_left
                ·intro w'
                 go_simp
                 with_reducible rfl
                rotate_left
                ·simp only [Act.put, List.setIfInBounds_toArray, List.set_cons_zero, List.set_cons_succ, i64_w, i32_w]
                 rfl
                refine take_ (i := 0) (N := some 88) (v := ?_) (a' := ?_) #[true, true, false, false] rfl rfl (by kernel_rfl) (fun _ _ _ h => h) (Or.inl ⟨by rfl, ?_⟩) hh ?_ ?_
                rotate_left
                ·rintro w' ⟨s0, s1, s2, s3, s4, s5⟩
                 go_simp
                 with_reducible rfl
                rotate_left
                ·simp only [Act.put, List.setIfInBounds_toArray, List.set_cons_zero, List.set_cons_succ, i64_w, i32_w]
                 rfl
                refine one_ (i := 2) (N := none) #[true, true, true, false] rfl rfl (by kernel_rfl) (by decide) (fun K hK => ?_)
                have hs65 : w64.cell? ⟨g3, 0, none⟩ = some (.int .i64 x139000_1) := (blk_cell BK138.out 0).trans rfl
                have hfs65 := blk_frozen BK138.out 0
                have hns65_1 := NB170_138.out
                have hms65_1 := NB138_170.out
                have hs66 : w64.cell? ⟨g3, 1, none⟩ = some (.string x139001_1) := (blk_cell BK138.out 1).trans rfl
                have hfs66 := blk_frozen BK138.out 1
                have hns66_1 := NB170_138.out
                have hms66_1 := NB138_170.out
                have hs67 : w64.cell? ⟨g3, 2, none⟩ = some (.int .i64 x139002_1) := (blk_cell BK138.out 2).trans rfl
                have hfs67 := blk_frozen BK138.out 2
                have hns67_1 := NB170_138.out
                have hms67_1 := NB138_170.out
                have hs68 : w64.cell? ⟨g3, 3, none⟩ = some (.int .i64 x139003_1) := (blk_cell BK138.out 3).trans rfl
                have hfs68 := blk_frozen BK138.out 3
                have hns68_1 := NB170_138.out
                have hms68_1 := NB138_170.out
                have hs69 : w64.cell? ⟨g3, 4, none⟩ = some (.slice none 0 0) := (blk_cell BK138.out 4).trans rfl
                have hfs69 := blk_frozen BK138.out 4
                have hns69_1 := NB170_138.out
                have hms69_1 := NB138_170.out
                have hs70 : w64.cell? ⟨g3, 5, none⟩ = some (.slice none 0 0) := (blk_cell BK138.out 5).trans rfl
                have hfs70 := blk_frozen BK138.out 5
                have hns70_1 := NB170_138.out
                have hms70_1 := NB138_170.out
                refine skip_ (w1 := ?_) (by rfl) rfl ?_ ?_
                rotate_left
                ·go_simp
                 rfl
                refine hK.out _ _ ⟨((cell_far (p := ⟨g3, _, none⟩) NB170_138.out _).trans (((cell_far (p := ⟨g3, _, none⟩) NB170_138.out _).trans (((cell_far (p := ⟨g3, _, none⟩) NB170_138.out _).trans (((cell_far (p := ⟨g3, _, none⟩) NB170_138.out _).trans (((cell_far (p := ⟨g3, _, none⟩) NB170_138.out _).trans (((cell_far (p := ⟨g3, _, none⟩) NB170_138.out _).trans (hh.1)))))))))))), ((cell_far (p := ⟨g3, _, none⟩) NB170_138.out _).trans (((cell_far (p := ⟨g3, _, none⟩) NB170_138.out _).trans (((cell_far (p := ⟨g3, _, none⟩) NB170_138.out _).trans (((cell_far (p := ⟨g3, _, none⟩) NB170_138.out _).trans (((cell_far (p := ⟨g3, _, none⟩) NB170_138.out _).trans (((cell_far (p := ⟨g3, _, none⟩) NB170_138.out _).trans (hh.2.1)))))))))))), ((cell_far (p := ⟨g3, _, none⟩) NB170_138.out _).trans (((cell_far (p := ⟨g3, _, none⟩) NB170_138.out _).trans (((cell_far (p := ⟨g3, _, none⟩) NB170_138.out _).trans (((cell_far (p := ⟨g3, _, none⟩) NB170_138.out _).trans (((cell_far (p := ⟨g3, _, none⟩) NB170_138.out _).trans (((cell_far (p := ⟨g3, _, none⟩) NB170_138.out _).trans (hh.2.2.1)))))))))))), ((cell_far (p := ⟨g3, _, none⟩) NB170_138.out _).trans (((cell_far (p := ⟨g3, _, none⟩) NB170_138.out _).trans (((cell_far (p := ⟨g3, _, none⟩) NB170_138.out _).trans (((cell_far (p := ⟨g3, _, none⟩) NB170_138.out _).trans (((cell_far (p := ⟨g3, _, none⟩) NB170_138.out _).trans (((cell_far (p := ⟨g3, _, none⟩) NB170_138.out _).trans (hh.2.2.2.1)))))))))))), ((cell_far (p := ⟨g3, _, none⟩) NB170_138.out _).trans (((cell_far (p := ⟨g3, _, none⟩) NB170_138.out _).trans (((cell_far (p := ⟨g3, _, none⟩) NB170_138.out _).trans (((cell_far (p := ⟨g3, _, none⟩) NB170_138.out _).trans (((cell_far (p := ⟨g3, _, none⟩) NB170_138.out _).trans (((cell_far (p := ⟨g3, _, none⟩) NB170_138.out _).trans (hh.2.2.2.2.1)))))))))))), ((cell_far (p := ⟨g3, _, none⟩) NB170_138.out _).trans (((cell_far (p := ⟨g3, _, none⟩) NB170_138.out _).trans (((cell_far (p := ⟨g3, _, none⟩) NB170_138.out _).trans (((cell_far (p := ⟨g3, _, none⟩) NB170_138.out _).trans (((cell_far (p := ⟨g3, _, none⟩) NB170_138.out _).trans (((cell_far (p := ⟨g3, _, none⟩) NB170_138.out _).trans (hh.2.2.2.2.2))))))))))))⟩ (fun hh => ?_)
                clear hK K
                refine pure_ (i := 3) (N := some 6) (v := ?_) (a' := ?_) #[true, true, true, true] rfl rfl (by kernel_rfl) (fun _ _ _ h => h) (Or.inl ⟨by rfl, ?_⟩) ?_ ?_
                rotate_left
                ·intro w'
                 go_simp
                 with_reducible rfl
                rotate_left
                ·simp only [Act.put, List.setIfInBounds_toArray, List.set_cons_zero, List.set_cons_succ, i64_w, i32_w]
                 rfl
                refine done_ (by kernel_rfl) ?_
                try go_wp2
                refine bodyPost_ret (results_list (rs := [.tmp 4, .cell 5 33, .tmp 6]) rfl (by simp) (.tmp (.cell g3 33 #[.int .i64 t159, .string t160, .int .i64 t161, .int .i64 t162, .slice Ao59 t163.length co59, .slice Ao61 t166.length co61] (0, 0) _ rfl (by refine blk_put (cs := #[.int .i64 t159, .string t160, .int .i64 t161, .int .i64 t162, .slice Ao59 t163.length co59, .slice none 0 0]) ?_ 5 _ rfl; refine blk_put (cs := #[.int .i64 t159, .string t160, .int .i64 t161, .int .i64 t162, .slice none 0 0, .slice none 0 0]) ?_ 4 _ rfl; refine blk_put (cs := #[.int .i64 t159, .string t160, .int .i64 t161, .int .i64 x139003_1, .slice none 0 0, .slice none 0 0]) ?_ 3 _ rfl; refine blk_put (cs := #[.int .i64 t159, .string t160, .int .i64 x139002_1, .int .i64 x139003_1, .slice none 0 0, .slice none 0 0]) ?_ 2 _ rfl; refine blk_put (cs := #[.int .i64 t159, .string x139001_1, .int .i64 x139002_1, .int .i64 x139003_1, .slice none 0 0, .slice none 0 0]) ?_ 1 _ rfl; refine blk_put (cs := #[.int .i64 x139000_1, .string x139001_1, .int .i64 x139002_1, .int .i64 x139003_1, .slice none 0 0, .slice none 0 0]) ?_ 0 _ rfl; exact BK138.out) Try.underlying33 rfl (by kernel_rfl) (.tmp .nil)))) rfl ?_
                exact ⟨_, _, _, by rfl, by exact Kd.R_nil _ _ _ _ _, by exact Kd.V_mono (Kd.V_far (p := ⟨g3, 5, none⟩) (Kd.V_far (p := ⟨g3, 4, none⟩) (Kd.V_far (p := ⟨g3, 3, none⟩) (Kd.V_far (p := ⟨g3, 2, none⟩) (Kd.V_far (p := ⟨g3, 1, none⟩) (Kd.V_far (p := ⟨g3, 0, none⟩) (Kd.V_mono HO165.out (fun k_ hk => (⟨hk, hk.2.2.2.2.1⟩ : _ ∧ k_ ≠ g3))) (fun _ hk => hk.2) (.int .i64 t159)) (fun _ hk => hk.2) (.string t160)) (fun _ hk => hk.2) (.int .i64 t161)) (fun _ hk => hk.2) (.int .i64 t162)) (fun _ hk => hk.2) (.slice Ao59 t163.length co59)) (fun _ hk => hk.2) (.slice Ao61 t166.length co61)) (fun _ hk => ⟨hk.1.1, (by simp [Value.ownBlock])⟩), by exact Kd.V_mono (Kd.V_far (p := ⟨g3, 5, none⟩) (Kd.V_far (p := ⟨g3, 4, none⟩) (Kd.V_far (p := ⟨g3, 3, none⟩) (Kd.V_far (p := ⟨g3, 2, none⟩) (Kd.V_far (p := ⟨g3, 1, none⟩) (Kd.V_far (p := ⟨g3, 0, none⟩) (Kd.V_mono HO168.out (fun k_ hk => (⟨hk, hk.2.2.2.2.1⟩ : _ ∧ k_ ≠ g3))) (fun _ hk => hk.2) (.int .i64 t159)) (fun _ hk => hk.2) (.string t160)) (fun _ hk => hk.2) (.int .i64 t161)) (fun _ hk => hk.2) (.int .i64 t162)) (fun _ hk => hk.2) (.slice Ao59 t163.length co59)) (fun _ hk => hk.2) (.slice Ao61 t166.length co61)) (fun _ hk => ⟨hk.1.1, (by simp [Value.ownBlock])⟩), by repeat ((with_reducible first | exact HB.out | refine below_set ?_ GE138.out ))⟩
              ·rw [if_neg c33] at H
               exact absurd H (by simp)
             ·rw [if_neg c32] at H
              exact absurd H (by simp)
            ·rw [if_neg c31] at H
             have c31b0 : (((rd_T33 t139 x9_1).f0) == 4) = false := beq_eq_false_iff_ne.mpr c31
             have c31b1 : (((rd_T33 t139 x9_1).f0) != 4) = true := bne_iff_ne.mpr c31
             have H' := am9 H
             clear H
             have p153 : 0 ≤ (x9_1 : Int) := of_decide_eq_true (by with_reducible assumption)
             have q153 : x9_1 < (t139.length : Int) := of_decide_eq_true (by with_reducible assumption)
             obtain ⟨ad153, A153_4, c153_4, A153_5, c153_5, e153, hx153_0, hx153_1, hx153_2, hx153_3, hx153_4, hx153_5, hl153_4, hi153_4, hl153_5, hi153_5⟩ := at_T33 (Kd.N_reads' HO_8.out).2.2 x9_1 p153 q153
             obtain rfl : ad142 = ad153 := (by injection e153)
             obtain ⟨ce153, hce153, hMe153, hcc153⟩ := Kd.N_get HO_8.out z33 x9_1 p153 (by exact q153)
             obtain ⟨ua153_4, uc153_4, ua153_5, uc153_5, rfl, ul153_4, ge153_4, ul153_5, ge153_5⟩ := k33_openF hMe153
             have hv153_4 := hcc153 4 _ rfl
             rw [add_field _ _ 4 (by omega)] at hv153_4
             replace hv153_4 := Option.some.inj (hv153_4.symm.trans hx153_4)
             injection hv153_4 with hva_ hvn_ hvc_
             rw [hva_] at ge153_4
             rw [hvc_] at ul153_4
             have HL153_4 := am9 (show Kd.V k33 33 _ w.heap.size _ _ ((rd_T33 t139 x9_1).f4) from Kd.V_mk ul153_4 ge153_4)
             clear hva_ hvn_ hvc_ ge153_4 ul153_4
             have hv153_5 := hcc153 5 _ rfl
             rw [add_field _ _ 5 (by omega)] at hv153_5
             replace hv153_5 := Option.some.inj (hv153_5.symm.trans hx153_5)
             injection hv153_5 with hva_ hvn_ hvc_
             rw [hva_] at ge153_5
             rw [hvc_] at ul153_5
             have HL153_5 := am9 (show Kd.V k33 33 _ w.heap.size _ _ ((rd_T33 t139 x9_1).f5) from Kd.V_mk ul153_5 ge153_5)
             clear hva_ hvn_ hvc_ ge153_5 ul153_5
             clear hcc153 hce153
             have HR153_4 := am9 hi153_4
             have HC153_4 := am9 hl153_4
             clear hi153_4 hl153_4
             have HR153_5 := am9 hi153_5
             have HC153_5 := am9 hl153_5
             clear hi153_5 hl153_5
             replace p153 := eq_true p153
             replace q153 := eq_true q153
             go_wp2
             go_roundg kj20
             case measure => have := HK1.out; have := HJ20.out; omega
             case rel => exact ⟨(x7_20), (wrap64 (x9_1 + 1)), (x139000_1), (x139001_1), (x139002_1), (x139003_1), (by rfl), H', ⟨by have := HK1.out; have := HJ20.out; omega⟩, ⟨by exact HO_7.out⟩, ⟨by exact HO_8.out⟩, ⟨by exact BK138.out⟩, ⟨by repeat (with_reducible exact HB.out)⟩⟩
           ·rw [if_neg c30] at H
            exact absurd H (by simp)
          ·rw [if_neg c29] at H
           exact absurd H (by simp)
       ·rw [if_neg c20] at H
        exact absurd H (by simp)
      ·rw [if_neg c19] at H
       exact absurd H (by simp)
    ·rw [if_neg c7] at H
     exact absurd H (by simp)
   ·rw [if_neg c6] at H
    have c6b0 : decide (x9_1 < (t139.length : Int)) = false := decide_eq_false c6
    clear c6
    simp only [Option.some.injEq, Prod.mk.injEq] at H
    obtain ⟨rfl, rfl, rfl, rfl, rfl, rfl, rfl, rfl⟩ := H
    obtain ⟨Ao71, co71, eo71⟩ := Kd.N_slice HO_8.out
    subst eo71
    have hcz72_0 : wr.cell? ⟨g3, 0, none⟩ = some (.int .i64 x139000_1) := (blk_cell BK138.out 0).trans rfl
    have hcz72_1 : wr.cell? ⟨g3, 1, none⟩ = some (.string x139001_1) := (blk_cell BK138.out 1).trans rfl
    have hcz72_2 : wr.cell? ⟨g3, 2, none⟩ = some (.int .i64 x139002_1) := (blk_cell BK138.out 2).trans rfl
    have hcz72_3 : wr.cell? ⟨g3, 3, none⟩ = some (.int .i64 x139003_1) := (blk_cell BK138.out 3).trans rfl
    have hcz72_4 : wr.cell? ⟨g3, 4, none⟩ = some (.slice none 0 0) := (blk_cell BK138.out 4).trans rfl
    have hcz72_5 : wr.cell? ⟨g3, 5, none⟩ = some (.slice none 0 0) := (blk_cell BK138.out 5).trans rfl
    have hfz72_0 := blk_frozen BK138.out 0
    have hfz72_1 := blk_frozen BK138.out 1
    have hfz72_2 := blk_frozen BK138.out 2
    have hfz72_3 := blk_frozen BK138.out 3
    have hfz72_4 := blk_frozen BK138.out 4
    have hfz72_5 := blk_frozen BK138.out 5
    go_wp2
    refine bodyPost_ret (results_list (rs := [.tmp 4, .cell 5 33, .tmp 6]) rfl (by simp) (.tmp (.cell g3 33 #[.int .i64 0, .string (⟨#[]⟩ : ByteArray), .int .i64 0, .int .i64 0, .slice none 0 0, .slice none 0 0] (0, 0) _ rfl (by refine blk_put (cs := #[.int .i64 0, .string (⟨#[]⟩ : ByteArray), .int .i64 0, .int .i64 0, .slice none 0 0, .slice none 0 0]) ?_ 5 _ rfl; refine blk_put (cs := #[.int .i64 0, .string (⟨#[]⟩ : ByteArray), .int .i64 0, .int .i64 0, .slice none 0 0, .slice none 0 0]) ?_ 4 _ rfl; refine blk_put (cs := #[.int .i64 0, .string (⟨#[]⟩ : ByteArray), .int .i64 0, .int .i64 x139003_1, .slice none 0 0, .slice none 0 0]) ?_ 3 _ rfl; refine blk_put (cs := #[.int .i64 0, .string (⟨#[]⟩ : ByteArray), .int .i64 x139002_1, .int .i64 x139003_1, .slice none 0 0, .slice none 0 0]) ?_ 2 _ rfl; refine blk_put (cs := #[.int .i64 0, .string x139001_1, .int .i64 x139002_1, .int .i64 x139003_1, .slice none 0 0, .slice none 0 0]) ?_ 1 _ rfl; refine blk_put (cs := #[.int .i64 x139000_1, .string x139001_1, .int .i64 x139002_1, .int .i64 x139003_1, .slice none 0 0, .slice none 0 0]) ?_ 0 _ rfl; exact BK138.out) Try.underlying33 rfl (by kernel_rfl) (.tmp .nil)))) rfl ?_
    exact ⟨_, _, _, by rfl, by exact Kd.R_mono (Kd.R_far (p := ⟨g3, 5, none⟩) (Kd.R_far (p := ⟨g3, 4, none⟩) (Kd.R_far (p := ⟨g3, 3, none⟩) (Kd.R_far (p := ⟨g3, 2, none⟩) (Kd.R_far (p := ⟨g3, 1, none⟩) (Kd.R_far (p := ⟨g3, 0, none⟩) (Kd.R_types HO_7.out BK138.out (by decide)) (fun _ hk => hk.2) (.int .i64 0)) (fun _ hk => hk.2) (.string (⟨#[]⟩ : ByteArray))) (fun _ hk => hk.2) (.int .i64 0)) (fun _ hk => hk.2) (.int .i64 0)) (fun _ hk => hk.2) (.slice none 0 0)) (fun _ hk => hk.2) (.slice none 0 0)) (fun _ hk => hk.1), (by exact Kd.V_nil _ _ _ _ _), (by exact Kd.V_nil _ _ _ _ _), by repeat ((with_reducible first | exact HB.out | refine below_set ?_ GE138.out))⟩

end Go.Proofs.Ytfmbfnjlennfoaa.QN
