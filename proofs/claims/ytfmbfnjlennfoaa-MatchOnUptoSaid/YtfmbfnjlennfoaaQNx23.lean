/- The law MatchOn's own function, walked. -/
import Derived.Test.YtfmbfnjlennfoaaQNx21
import Derived.Test.YtfmbfnjlennfoaaQNx2
import Derived.Test.YtfmbfnjlennfoaaQNx5
namespace Go.Proofs.Ytfmbfnjlennfoaa.QN
open Go.RowKit Go.Proofs.YtfmbfnjlennfoaaW.PrintWords Go.Proofs.YtfmbfnjlennfoaaW.PrintLast Go.Proofs.YtfmbfnjlennfoaaW.PrintMore
attribute [local go_sem] max2_int min2_int max_two min_two max_three min_three max_four min_four   -- for this text's walks alone
set_option linter.unusedVariables false
set_option linter.unusedSimpArgs false
/-- One call of match.Match, as the law sees it. -/
def MatchedTo (P : Program) (S H : En) (L : List S42) (ka : Int) (ks : ByteArray) (b : Bool) : Prop := ∀ (W : World) (pS pH : Option Addr), EnAt W S pS → EnAt W H pH →
    Calls P 7 #[.pointer pS, .pointer pH] W fun e w' => ∃ (A : Option Addr) (c : Nat), e = .returned (.tuple #[.slice A L.length c, .agg #[.int .i64 ka, .string ks], .bool b]) ∧ Below W.heap.size W w'
theorem matchedTo {k : Nat} {S H : En} {l : List S42} {m : Option EKey} (hm : matchF k S H = some (l, m)) (hok : S.ok) (hlen : l.length ≤ 4000000) : MatchedTo Try.prog S H (if m.isNone = true then l else []) (m.getD (0, ⟨#[]⟩)).1 (m.getD (0, ⟨#[]⟩)).2 m.isNone := by
  intro W pS pH hS hH
  refine (match_calls k S H l m hm W pS pH hS hH hok hlen).mono ?_
  rintro e w' ⟨v, rfl, hR, hb⟩
  obtain ⟨A, c, rfl⟩ := Kd.R_slice hR
  exact ⟨A, c, rfl, hb⟩
set_option maxHeartbeats 16000000 in
set_option maxRecDepth 100000 in
theorem oriellaw12_MatchOn.calls (k : Nat) (A0 : Option Addr) (c0 : Nat) (l0 : List S33) (A1 : Option Addr) (c1 : Nat) (l1 : List S33) (A2 : Option Addr) (c2 : Nat) (l2 : List S33) (w : World) (hr0 : Kd.C k33 w A0 l0.length l0) (hc0 : l0.length ≤ c0) (hr1 : Kd.C k33 w A1 l1.length l1) (hc1 : l1.length ≤ c1) (hr2 : Kd.C k33 w A2 l2.length l2) (hc2 : l2.length ≤ c2)
    (r0 r1 r2 : Bool) (h0 : oriellaw12_few.f k l0 = some r0) (h1 : oriellaw12_few.f k l1 = some r1) (h2 : oriellaw12_few.f k l2 = some r2) (ha : oriellaw12_alive.f k = some true)
    (ka0 : Int) (ks0 : ByteArray) (hm0 : MatchedTo Try.prog (mkL .nil l0) (mkL .nil l0) [] ka0 ks0 true)
    (L1 : List S42) (ka1 : Int) (ks1 : ByteArray) (b1 : Bool) (hm1 : MatchedTo Try.prog (mkL .nil l0) (mkL .nil l1) L1 ka1 ks1 b1)
    (L2 : List S42) (ka2 : Int) (ks2 : ByteArray) (b2 : Bool) (hm2 : MatchedTo Try.prog (mkL .nil l1) (mkL .nil l2) L2 ka2 ks2 b2)
    (L3 : List S42) (ka3 : Int) (ks3 : ByteArray) (b3 : Bool) (hm3 : MatchedTo Try.prog (mkL .nil l0) (mkL .nil l2) L3 ka3 ks3 b3) (hon : b1 = true → b2 = true → b3 = true) :
    Calls Try.prog 4 #[.slice A0 l0.length c0, .slice A1 l1.length c1, .slice A2 l2.length c2] w fun e w' => e = .returned (.bool true) ∧ Below w.heap.size w w' := by
  have hu27 := Try.underlying27
  have hu25 := Try.underlying25
  have hu22 := Try.underlying22
  have HC0 := Aside0.mk hr0
  have HF0 := Lib.hid h0
  have HQ0 := Lib.hid hc0
  have HC1 := Aside0.mk hr1
  have HF1 := Lib.hid h1
  have HQ1 := Lib.hid hc1
  have HC2 := Aside0.mk hr2
  have HF2 := Lib.hid h2
  have HQ2 := Lib.hid hc2
  have HA := Lib.hid ha
  have HM0 := Aside0.mk hm0
  have HM1 := Aside0.mk hm1
  have HM2 := Aside0.mk hm2
  have HM3 := Aside0.mk hm3
  clear hr0 hr1 hr2 hc0 hc1 hc2 h0 h1 h2 ha hm0 hm1 hm2 hm3
  have HB0 := Aside0.mk (Below.refl w.heap.size w)
  obtain ⟨n0, hn0⟩ : ∃ n0, l0.length = n0 := ⟨_, rfl⟩
  have HN0 := Lib.hid hn0
  obtain ⟨n1, hn1⟩ : ∃ n1, l1.length = n1 := ⟨_, rfl⟩
  have HN1 := Lib.hid hn1
  obtain ⟨n2, hn2⟩ : ∃ n2, l2.length = n2 := ⟨_, rfl⟩
  have HN2 := Lib.hid hn2
  rw [hn0, hn1, hn2]
  clear hn0 hn1 hn2
  have HON := Lib.hid hon
  clear hon
  go_enter Try.func4, Try.ntmps4
  go_wp2_with fail
  refine Calls.mono (by have h := oriellaw12_few.calls k A0 c0 l0 r0 w (Kd.C_below HC0.out HB0.out) HQ0.out HF0.out; rw [HN0.out] at h; exact h) ?_
  rintro e w1 ⟨rfl, hb⟩
  have HB1 := Aside0.mk (below_step HB0.out hb)
  clear hb
  cases r0 with
  | false =>
    go_wp2_with fail
    refine (oriellaw12_alive.calls k true _ HA.out).mono ?_
    rintro e wA ⟨rfl, hb⟩
    have HBA := Aside0.mk (below_step HB1.out hb)
    clear hb
    go_wp2_with fail
    go_ret
    exact ⟨rfl, HBA.out⟩
  | true =>
  go_wp2_with fail
  refine Calls.mono (by have h := oriellaw12_few.calls k A1 c1 l1 r1 w1 (Kd.C_below HC1.out HB1.out) HQ1.out HF1.out; rw [HN1.out] at h; exact h) ?_
  rintro e w2 ⟨rfl, hb⟩
  have HB2 := Aside0.mk (below_step HB1.out hb)
  clear hb
  cases r1 with
  | false =>
    go_wp2_with fail
    refine (oriellaw12_alive.calls k true _ HA.out).mono ?_
    rintro e wA ⟨rfl, hb⟩
    have HBA := Aside0.mk (below_step HB2.out hb)
    clear hb
    go_wp2_with fail
    go_ret
    exact ⟨rfl, HBA.out⟩
  | true =>
  go_wp2_with fail
  refine Calls.mono (by have h := oriellaw12_few.calls k A2 c2 l2 r2 w2 (Kd.C_below HC2.out HB2.out) HQ2.out HF2.out; rw [HN2.out] at h; exact h) ?_
  rintro e w3 ⟨rfl, hb⟩
  have HB3 := Aside0.mk (below_step HB2.out hb)
  clear hb
  cases r2 with
  | false =>
    go_wp2_with fail
    refine (oriellaw12_alive.calls k true _ HA.out).mono ?_
    rintro e wA ⟨rfl, hb⟩
    have HBA := Aside0.mk (below_step HB3.out hb)
    clear hb
    go_wp2_with fail
    go_ret
    exact ⟨rfl, HBA.out⟩
  | true =>
  go_wp2_with fail
  refine Calls.mono (by have h := made_calls _ l0 (Nat.lt_succ_self _) w3 A0 c0 (Kd.C_below HC0.out HB3.out) HQ0.out .nil none rfl; rw [HN0.out] at h; exact h) ?_
  rintro e w4 ⟨p0, rfl, hS, hb⟩
  have HS0_4 := Aside0.mk hS
  have HB4 := Aside0.mk (below_step HB3.out hb)
  clear hb hS
  go_wp2_with fail
  refine Calls.mono (by have h := made_calls _ l1 (Nat.lt_succ_self _) w4 A1 c1 (Kd.C_below HC1.out HB4.out) HQ1.out .nil none rfl; rw [HN1.out] at h; exact h) ?_
  rintro e w5 ⟨p1, rfl, hS, hb⟩
  have HS1_5 := Aside0.mk hS
  have HS0_5 := Aside0.mk (en_below hb HS0_4.out)
  have HB5 := Aside0.mk (below_step HB4.out hb)
  clear hb hS
  go_wp2_with fail
  refine Calls.mono (by have h := made_calls _ l2 (Nat.lt_succ_self _) w5 A2 c2 (Kd.C_below HC2.out HB5.out) HQ2.out .nil none rfl; rw [HN2.out] at h; exact h) ?_
  rintro e w6 ⟨p2, rfl, hS, hb⟩
  have HS2_6 := Aside0.mk hS
  have HS0_6 := Aside0.mk (en_below hb HS0_5.out)
  have HS1_6 := Aside0.mk (en_below hb HS1_5.out)
  have HB6 := Aside0.mk (below_step HB5.out hb)
  clear hb hS
  go_wp2_with fail
  have HT0_6 := HS0_6
  have HT1_6 := HS1_6
  have HT2_6 := HS2_6
  have HD6 := HB6
  refine (HM0.out _ p0 p0 HT0_6.out HT0_6.out).mono ?_
  rintro e w7 ⟨B0, d0, rfl, hb⟩
  have HS0_7 := Aside0.mk (en_below hb HT0_6.out)
  have HS1_7 := Aside0.mk (en_below hb HT1_6.out)
  have HS2_7 := Aside0.mk (en_below hb HT2_6.out)
  have HB7 := Aside0.mk (below_step HD6.out hb)
  clear hb
  have h00 : ([] : List S42).length = 0 := rfl
  rw [h00]
  go_wp2_with fail
  obtain ⟨W7, hW⟩ : ∃ W7, w7.alloc (.cells #[.int .i64 ka0, .string ks0] 27) = W7 := ⟨_, rfl⟩
  rw [hW]
  have hbA : Below w7.heap.size w7 W7 := by rw [← hW]; exact below_alloc (Below.refl _ _) _
  have HT0_7 := Aside0.mk (en_below hbA HS0_7.out)
  have HT1_7 := Aside0.mk (en_below hbA HS1_7.out)
  have HT2_7 := Aside0.mk (en_below hbA HS2_7.out)
  have HD7 := Aside0.mk (below_step HB7.out hbA)
  clear hbA hW
  refine (HM1.out _ p0 p1 HT0_7.out HT1_7.out).mono ?_
  rintro e w8 ⟨B1, d1, rfl, hb⟩
  have HS0_8 := Aside0.mk (en_below hb HT0_7.out)
  have HS1_8 := Aside0.mk (en_below hb HT1_7.out)
  have HS2_8 := Aside0.mk (en_below hb HT2_7.out)
  have HB8 := Aside0.mk (below_step HD7.out hb)
  clear hb
  go_wp2_with fail
  obtain ⟨W8, hW⟩ : ∃ W8, w8.alloc (.cells #[.int .i64 ka1, .string ks1] 27) = W8 := ⟨_, rfl⟩
  rw [hW]
  have hbA : Below w8.heap.size w8 W8 := by rw [← hW]; exact below_alloc (Below.refl _ _) _
  have HT0_8 := Aside0.mk (en_below hbA HS0_8.out)
  have HT1_8 := Aside0.mk (en_below hbA HS1_8.out)
  have HT2_8 := Aside0.mk (en_below hbA HS2_8.out)
  have HD8 := Aside0.mk (below_step HB8.out hbA)
  clear hbA hW
  refine (HM2.out _ p1 p2 HT1_8.out HT2_8.out).mono ?_
  rintro e w9 ⟨B2, d2, rfl, hb⟩
  have HS0_9 := Aside0.mk (en_below hb HT0_8.out)
  have HS1_9 := Aside0.mk (en_below hb HT1_8.out)
  have HS2_9 := Aside0.mk (en_below hb HT2_8.out)
  have HB9 := Aside0.mk (below_step HD8.out hb)
  clear hb
  go_wp2_with fail
  obtain ⟨W9, hW⟩ : ∃ W9, w9.alloc (.cells #[.int .i64 ka2, .string ks2] 27) = W9 := ⟨_, rfl⟩
  rw [hW]
  have hbA : Below w9.heap.size w9 W9 := by rw [← hW]; exact below_alloc (Below.refl _ _) _
  have HT0_9 := Aside0.mk (en_below hbA HS0_9.out)
  have HT1_9 := Aside0.mk (en_below hbA HS1_9.out)
  have HT2_9 := Aside0.mk (en_below hbA HS2_9.out)
  have HD9 := Aside0.mk (below_step HB9.out hbA)
  clear hbA hW
  refine (HM3.out _ p0 p2 HT0_9.out HT2_9.out).mono ?_
  rintro e w10 ⟨B3, d3, rfl, hb⟩
  have HS0_10 := Aside0.mk (en_below hb HT0_9.out)
  have HS1_10 := Aside0.mk (en_below hb HT1_9.out)
  have HS2_10 := Aside0.mk (en_below hb HT2_9.out)
  have HB10 := Aside0.mk (below_step HD9.out hb)
  clear hb
  have HBZ : Aside0 (Below w.heap.size w (w10.alloc (.cells #[.int .i64 ka3, .string ks3] 27))) := ⟨below_alloc HB10.out _⟩
  cases b1 with
  | false =>
    go_wp2_with fail
    refine (oriellaw12_alive.calls k true _ HA.out).mono ?_
    rintro e wA ⟨rfl, hb⟩
    have HBA := Aside0.mk (below_step HBZ.out hb)
    clear hb
    go_wp2_with fail
    go_ret
    exact ⟨rfl, HBA.out⟩
  | true =>
  cases b2 with
  | false =>
    go_wp2_with fail
    refine (oriellaw12_alive.calls k true _ HA.out).mono ?_
    rintro e wA ⟨rfl, hb⟩
    have HBA := Aside0.mk (below_step HBZ.out hb)
    clear hb
    go_wp2_with fail
    go_ret
    exact ⟨rfl, HBA.out⟩
  | true =>
    obtain rfl : b3 = true := HON.out rfl rfl
    go_wp2_with fail
    refine (oriellaw12_alive.calls k true _ HA.out).mono ?_
    rintro e wA ⟨rfl, hb⟩
    have HBA := Aside0.mk (below_step HBZ.out hb)
    clear hb
    go_wp2_with fail
    go_ret
    exact ⟨rfl, HBA.out⟩
end Go.Proofs.Ytfmbfnjlennfoaa.QN
