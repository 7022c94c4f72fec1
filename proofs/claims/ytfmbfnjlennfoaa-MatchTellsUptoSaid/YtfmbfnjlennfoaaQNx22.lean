/- The law MatchTells' own function, walked. -/
import Derived.Test.YtfmbfnjlennfoaaQNx21
import Derived.Test.YtfmbfnjlennfoaaQNx2
import Derived.Test.YtfmbfnjlennfoaaQNx5
import Derived.Test.YtfmbfnjlennfoaaQNx7
namespace Go.Proofs.Ytfmbfnjlennfoaa.QN
open Go.RowKit Go.Proofs.YtfmbfnjlennfoaaW.PrintWords Go.Proofs.YtfmbfnjlennfoaaW.PrintLast Go.Proofs.YtfmbfnjlennfoaaW.PrintMore
attribute [local go_sem] max2_int min2_int max_two min_two max_three min_three max_four min_four   -- for this text's walks alone
set_option linter.unusedVariables false
set_option linter.unusedSimpArgs false
theorem vC {w : World} {A : Option Addr} {c : Nat} {l : List S33} (h : Kd.C k33 w A l.length l) (hc : l.length ≤ c) : Kd.V k33 33 w w.heap.size (fun k_ => k_ < w.heap.size) (.slice A l.length c) l := Kd.V_mk hc (Kd.C_F k33_heap h)
set_option maxHeartbeats 16000000 in
set_option maxRecDepth 100000 in
theorem oriellaw12_MatchTells.calls (k : Nat) (A0 : Option Addr) (c0 : Nat) (l0 : List S33) (A1 : Option Addr) (c1 : Nat) (l1 : List S33) (w : World) (hr0 : Kd.C k33 w A0 l0.length l0) (hc0 : l0.length ≤ c0) (hr1 : Kd.C k33 w A1 l1.length l1) (hc1 : l1.length ≤ c1)
    (r1 r2 : Bool) (h1 : oriellaw12_few.f k l0 = some r1) (h2 : oriellaw12_few.f k l1 = some r2) (ha : oriellaw12_alive.f k = some true)
    (km : Nat) (l : List S42) (m : Option EKey) (hm : matchF km (mkL .nil l0) (mkL .nil l1) = some (l, m)) (hok : (mkL .nil l0).ok) (hlen : l.length ≤ 4000000)
    (L : List S42) (hL : (if m.isNone = true then l else []) = L) (ka : Int) (ks : ByteArray) (hk : m.getD (0, ⟨#[]⟩) = (ka, ks)) (b : Bool) (hb : m.isNone = b) (x4 x5 : Int) (x6 x7 : List S33) (hR : orielref12_Match.f k l0 l1 = some (L, ka, ks, x4, x5, x6, x7, b)) (hP : orielref12_Pairs.f k L L = some true) :
    Calls Try.prog 3 #[.slice A0 l0.length c0, .slice A1 l1.length c1] w fun e w' => e = .returned (.bool true) ∧ Below w.heap.size w w' := by
  have hu27 := Try.underlying27
  have hu33 := Try.underlying33
  have hu25 := Try.underlying25
  have hu22 := Try.underlying22
  have HC0 := Aside0.mk hr0
  have HC1 := Aside0.mk hr1
  have HF0 := Lib.hid h1
  have HF1 := Lib.hid h2
  have HA := Lib.hid ha
  have HQ0 := Lib.hid hc0
  have HQ1 := Lib.hid hc1
  have HMC := Aside0.mk (fun (W : World) (pS pH : Option Addr) hS hH => match_calls km (mkL .nil l0) (mkL .nil l1) l m hm W pS pH hS hH hok hlen)
  rw [hL, hk, hb] at HMC
  have HRM := Lib.hid hR
  have HPP := Lib.hid hP
  clear hr0 hr1 h1 h2 ha hc0 hc1 hm hok hlen hL hk hb hR hP
  have HB := Aside0.mk (Below.refl w.heap.size w)
  obtain ⟨n0, hn0⟩ : ∃ n0, l0.length = n0 := ⟨_, rfl⟩
  obtain ⟨n1, hn1⟩ : ∃ n1, l1.length = n1 := ⟨_, rfl⟩
  have HN0 := Lib.hid hn0
  have HN1 := Lib.hid hn1
  rw [hn0, hn1]
  clear hn0 hn1
  go_enter Try.func3, Try.ntmps3
  go_wp2_with fail
  refine Calls.mono (by have h := oriellaw12_few.calls k A0 c0 l0 r1 w HC0.out HQ0.out HF0.out; rw [HN0.out] at h; exact h) ?_
  rintro e w1 ⟨rfl, hb1⟩
  have HB1 := Aside0.mk hb1
  clear hb1 HB
  cases r1 with
  | false =>
    go_wp2_with fail
    refine (oriellaw12_alive.calls k true _ HA.out).mono ?_
    rintro e w2 ⟨rfl, hb2⟩
    have HB2 := Aside0.mk (below_step HB1.out hb2)
    clear hb2
    go_wp2_with fail
    go_ret
    exact ⟨rfl, HB2.out⟩
  | true =>
  go_wp2_with fail
  refine Calls.mono (by have h := oriellaw12_few.calls k A1 c1 l1 r2 w1 (Kd.C_below HC1.out HB1.out) HQ1.out HF1.out; rw [HN1.out] at h; exact h) ?_
  rintro e w2 ⟨rfl, hb2⟩
  have HB2 := Aside0.mk (below_step HB1.out hb2)
  clear hb2
  cases r2 with
  | false =>
    go_wp2_with fail
    refine (oriellaw12_alive.calls k true _ HA.out).mono ?_
    rintro e w3 ⟨rfl, hb3⟩
    have HB3 := Aside0.mk (below_step HB2.out hb3)
    clear hb3
    go_wp2_with fail
    go_ret
    exact ⟨rfl, HB3.out⟩
  | true =>
  go_wp2_with fail
  refine Calls.mono (by have h := made_calls _ l0 (Nat.lt_succ_self _) w2 A0 c0 (Kd.C_below HC0.out HB2.out) HQ0.out .nil none rfl; rw [HN0.out] at h; exact h) ?_
  rintro e w3 ⟨pS, rfl, hS3, hb3⟩
  have HS3 := Aside0.mk hS3
  have HB3 := Aside0.mk (below_step HB2.out hb3)
  clear hb3 hS3
  go_wp2_with fail
  refine Calls.mono (by have h := made_calls _ l1 (Nat.lt_succ_self _) w3 A1 c1 (Kd.C_below HC1.out HB3.out) HQ1.out .nil none rfl; rw [HN1.out] at h; exact h) ?_
  rintro e w4 ⟨pH, rfl, hH4, hb4⟩
  have HS4 := Aside0.mk (en_below hb4 HS3.out)
  have HH4 := Aside0.mk hH4
  have HB4 := Aside0.mk (below_step HB3.out hb4)
  clear hb4 hH4
  go_wp2_with fail
  refine (HMC.out w4 pS pH HS4.out HH4.out).mono ?_
  rintro e w5 ⟨v5, rfl, hR5, hb5⟩
  obtain ⟨A5, c5, rfl⟩ := Kd.R_slice hR5
  have HR5 := Aside0.mk hR5
  have HB5 := Aside0.mk (below_step HB4.out hb5)
  clear hR5 hb5
  go_wp2_with fail
  obtain ⟨W6, hW6⟩ : ∃ W6, w5.alloc (.cells #[.int .i64 ka, .string ks] 27) = W6 := ⟨_, rfl⟩
  rw [hW6]
  have hb6 : Below w5.heap.size w5 W6 := by rw [← hW6]; exact below_alloc (Below.refl _ _) _
  have hz6 : W6.heap[w5.heap.size]? = some (.cells #[.int .i64 ka, .string ks] 27 (0, 0)) := by rw [← hW6]; exact blk_new w5 _
  refine Calls.mono (by have h := orielref12_Match.calls k _ A0 c0 l0 A1 c1 l1 L ka ks x4 x5 x6 x7 b W6 (vC (Kd.C_below HC0.out (below_step HB5.out hb6)) HQ0.out) (Kd.C_below HC1.out (below_step HB5.out hb6)) HQ1.out HRM.out; rw [HN0.out, HN1.out] at h; exact h) ?_
  rintro e w7 ⟨v0, v6, v7, rfl, hR7, hV6, hV7, hb7⟩
  obtain ⟨A7, c7, rfl⟩ := Kd.R_slice hR7
  obtain ⟨A8, c8, rfl⟩ := Kd.V_slice hV6
  obtain ⟨A9, c9, rfl⟩ := Kd.V_slice hV7
  have HR7 := Aside0.mk hR7
  have hz7 := (hb7.block _ (blk_lt hz6)).trans hz6
  have HR57 := Aside0.mk (Kd.R_below HR5.out (below_step hb6 hb7))
  have HB7 := Aside0.mk (below_step HB5.out (below_step hb6 hb7))
  clear hR7 hV6 hV7 hb7 hb6 hz6 HR5 hW6
  generalize x6.length = n6 at *
  generalize x7.length = n7 at *
  go_wp2_with fail
  obtain ⟨W8, hW8⟩ : ∃ W8, w7.alloc (.cells #[.int .i64 ka, .string ks, .int .i64 x4, .int .i64 x5, .slice A8 n6 c8, .slice A9 n7 c9] 33) = W8 := ⟨_, rfl⟩
  rw [hW8]
  have hb8 : Below w7.heap.size w7 W8 := by rw [← hW8]; exact below_alloc (Below.refl _ _) _
  have hz8 : W8.heap[w7.heap.size]? = some (.cells #[.int .i64 ka, .string ks, .int .i64 x4, .int .i64 x5, .slice A8 n6 c8, .slice A9 n7 c9] 33 (0, 0)) := by rw [← hW8]; exact blk_new w7 _
  have hk8 := (hb8.block _ (blk_lt hz7)).trans hz7
  refine (orielref12_Pairs.calls k A5 c5 L A7 c7 L true W8 (Kd.R_reads' (Kd.R_below HR57.out hb8)).2.2 (Kd.R_reads' HR57.out).2.1 (Kd.R_reads' (Kd.R_below HR7.out hb8)).2.2 (Kd.R_reads' HR7.out).2.1 HPP.out).mono ?_
  rintro e w9 ⟨rfl, hd9⟩
  have hb9 := hd9.below
  have hz9 := (hb9.block _ (blk_lt hz8)).trans hz8
  have hk9 := (hb9.block _ (blk_lt hk8)).trans hk8
  have HB9 := Aside0.mk (below_step HB7.out (below_step hb8 hb9))
  have z0 : w9.cell? ⟨w7.heap.size, 0, none⟩ = some (.int .i64 ka) := (blk_cell hz9 0).trans rfl
  have z1 : w9.cell? ⟨w7.heap.size, 1, none⟩ = some (.string ks) := (blk_cell hz9 1).trans rfl
  have y0 : w9.cell? ⟨w5.heap.size, 0, none⟩ = some (.int .i64 ka) := (blk_cell hk9 0).trans rfl
  have y1 : w9.cell? ⟨w5.heap.size, 1, none⟩ = some (.string ks) := (blk_cell hk9 1).trans rfl
  have hbb : (b == b) = true := by simp
  have hq : ∀ W : World, (Op.equalIn 10000 27 (.agg #[.int .i64 ka, .string ks]) (.agg #[.int .i64 ka, .string ks])).run Try.prog W = .ok true W := fun W => by
    rw [eqKey 9998 W, key_beq (ka, ks) (ka, ks), decide_eq_true rfl]
  clear hd9 hb9 hz9 hk9 hz8 hk8 hb8 hW8 hz7
  go_wp2_with fail
  refine (oriellaw12_alive.calls k true _ HA.out).mono ?_
  rintro e w10 ⟨rfl, hb10⟩
  have HB10 := Aside0.mk (below_step HB9.out hb10)
  clear hb10
  go_wp2_with fail
  go_ret
  exact ⟨rfl, HB10.out⟩
end Go.Proofs.Ytfmbfnjlennfoaa.QN
