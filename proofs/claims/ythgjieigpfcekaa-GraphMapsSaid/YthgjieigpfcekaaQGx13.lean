-- Laid by this claim's own program (mprint.py in the repo).
import Derived.Test.YthgjieigpfcekaaQGx0
import Derived.Test.YthgjieigpfcekaaQGx2
import Derived.Test.YthgjieigpfcekaaQGx3
namespace Go.Proofs.Ythgjieigpfcekaa.QG
open Go.RowKit Go.Proofs.YthgjieigpfcekaaW.PrintWords Go.Proofs.YthgjieigpfcekaaW.PrintLast Go.Proofs.YthgjieigpfcekaaW.PrintMore
attribute [local go_sem] max2_int min2_int max_two min_two max_three min_three max_four min_four   -- for this text's walks alone
set_option linter.unusedVariables false
set_option linter.unusedSimpArgs false

/-! ### slices_Clone_int_int: function 67 -/
def slices_Clone_int_int.f (l : List Int) : Option (List Int) := if l.length ≤ 1000000000000 then some l else none
theorem clone_info : (Try.prog.info? 3).map (fun i => (i.zero, i.size, i.bytes)) = some (some (.int .i64 0), 1, 8) := by kernel_rfl
set_option maxHeartbeats 2000000 in
set_option maxRecDepth 100000 in
theorem slices_Clone_int_int.calls (A0 : Option Addr) (c0 : Nat) (l0 : List Int) (r : List Int) (w : World) (hr0 : Kd.C (Kd.int .i64) w A0 l0.length l0) (hc0 : l0.length ≤ c0) (h : slices_Clone_int_int.f l0 = some r) :
    Calls Try.prog 67 #[.slice A0 l0.length c0] w fun e w' => ∃ v0_ : Value, e = .returned (v0_) ∧ Kd.R (Kd.int .i64) 3 w' w.heap.size (fun _ => True) v0_ r ∧ Below w.heap.size w w' := by
  have hu24 := Try.underlying24
  unfold slices_Clone_int_int.f at h
  by_cases hok : l0.length ≤ 1000000000000
  · rw [if_pos hok] at h
    obtain rfl := Option.some.inj h
    clear h
    cases A0 with
    | none =>
      have hl : l0 = [] := by
        cases l0 with
        | nil => rfl
        | cons x t =>
          obtain ⟨ad, e, _⟩ := Kd.at_int hr0 0 (by omega) (by simp)
          cases e
      subst hl
      clear hr0
      have hnil : ∀ w : World, (binOp .eql 24 (.slice none 0 c0) (.slice none 0 0)).run Try.prog w = .ok (.bool true) w := fun w => Lib.run_eql_slice_nil w 24 3 none 0 c0 0 0 hu24
      go_enter Try.func67, Try.ntmps67
      go_wp2
      go_ret
      exact ⟨_, rfl, Kd.R_nil _ _ _ _ _, Below.refl _ _⟩
    | some ad =>
      have HC := Aside0.mk (Kd.C_alloc hr0 (.cells #[] 3))
      clear hr0
      have HO := Aside0.mk (Kd.R_of_own (enc := Value.int .i64) (h1 := fun _ => rfl) (ok := fun _ => True) (own_lit w w.heap.size 3 .i64 [] (Nat.le_refl _) (by simp)) (fun _ _ => trivial))
      have HB := Aside0.mk (below_alloc (Below.refl w.heap.size w) (.cells #[] 3))
      obtain ⟨n, hn⟩ : ∃ n, l0.length = n := ⟨_, rfl⟩
      rw [hn] at hok HC hc0 ⊢
      clear hn
      have hnil : ∀ w : World, (binOp .eql 24 (.slice (some ad) n c0) (.slice none 0 0)).run Try.prog w = .ok (.bool false) w := fun w => Lib.run_eql_slice_nil w 24 3 (some ad) n c0 0 0 hu24
      go_enter Try.func67, Try.ntmps67
      go_wp2_with (at_builtin; refine Kd.R_append_rows (Kd.int .i64) (w0 := w) w.heap.size rfl (.tmp 5) (.tmp 6) 24 3 (.int .i64 0) 8 rfl Try.underlying24 clone_info rfl (by decide) (by omega) _ [] l0 _ _ _ (fun _ => True) (fun _ => False) rfl rfl HO.out HC.out (fun _ _ h => h) (fun _ h => h.elim) (fun _ _ => trivial) HB.out HB.out.size ?aL ?hk)
      case aL => simp; omega
      case hk =>
        intro v1 w1 ho hb _ _
        have HO1 := Aside0.mk ho
        have HB1 := Aside0.mk hb
        clear ho hb
        go_wp2
        go_ret
        exact ⟨v1, rfl, HO1.out, HB1.out⟩
  · rw [if_neg hok] at h
    cases h



/-! ### graph_Then: function 36 -/
def thenX (k : List Int) (x : Int) : Int := if inB x k.length = true then rd k x else -1
def graph_Then.f (m k : List Int) : Option (List Int) := if m.length ≤ 1000000000000 then some (m.map (thenX k)) else none
/-- The row after so many rounds. -/
def thenS (m k : List Int) (j : Nat) : List Int := (m.take j).map (thenX k) ++ m.drop j
theorem thenS_len (m k : List Int) (j : Nat) : (thenS m k j).length = m.length := by
  unfold thenS
  simp
  omega
theorem thenS_rd (m k : List Int) (j : Nat) (h : j < m.length) : rd (thenS m k j) (j : Int) = rd m (j : Int) := by
  show (thenS m k j).getD j 0 = m.getD j 0
  unfold thenS
  rw [List.getD_eq_getElem?_getD, List.getD_eq_getElem?_getD, List.getElem?_append_right (by simp; omega)]
  simp
  congr 2
  omega
theorem thenS_set (m k : List Int) (j : Nat) (h : j < m.length) : (thenS m k j).set j (thenX k (rd m (j : Int))) = thenS m k (j + 1) := by
  have hd := drop_int m j h
  unfold thenS
  rw [List.set_append_right _ _ (by simp; omega)]
  have e : j - ((m.take j).map (thenX k)).length = 0 := by simp; omega
  rw [e, hd, List.set_cons_zero, List.take_add_one, List.getElem?_eq_getElem h, List.map_append, List.append_assoc]
  congr 1
  have : rd m (j : Int) = m[j] := by
    show m.getD j 0 = _
    rw [List.getD_eq_getElem?_getD, List.getElem?_eq_getElem h]
    rfl
  rw [this]
  rfl
theorem then_info : (Try.prog.info? 3).map (·.size) = some 1 := by kernel_rfl
set_option maxHeartbeats 4000000 in
set_option maxRecDepth 100000 in
theorem graph_Then.calls (A0 : Option Addr) (c0 : Nat) (l0 : List Int) (A1 : Option Addr) (c1 : Nat) (l1 : List Int) (r : List Int) (w : World) (hr0 : Kd.C (Kd.int .i64) w A0 l0.length l0) (hc0 : l0.length ≤ c0) (hr1 : Kd.C (Kd.int .i64) w A1 l1.length l1) (hc1 : l1.length ≤ c1) (h : graph_Then.f l0 l1 = some r) :
    Calls Try.prog 36 #[.slice A0 l0.length c0, .slice A1 l1.length c1] w fun e w' => ∃ v0_ : Value, e = .returned (v0_) ∧ Kd.R (Kd.int .i64) 3 w' w.heap.size (fun _ => True) v0_ r ∧ Below w.heap.size w w' := by
  have hu24 := Try.underlying24
  unfold graph_Then.f at h
  by_cases hok : l0.length ≤ 1000000000000
  · rw [if_pos hok] at h
    obtain rfl := Option.some.inj h
    clear h
    have HC1 := Aside0.mk hr1
    have hmx1 := Kd.C_max hr1
    have HCL := Aside0.mk (slices_Clone_int_int.calls A0 c0 l0 l0 w hr0 hc0 (by unfold slices_Clone_int_int.f; rw [if_pos hok]))
    clear hr0 hr1
    go_enter Try.func36, Try.ntmps36
    go_wp2_with fail
    refine HCL.out.mono ?_
    rintro e w1 ⟨v0, rfl, ho, hb⟩
    have HO0 := Aside0.mk ho
    have HB0 := Aside0.mk hb
    clear ho hb HCL
    by_cases hz : l0.length = 0
    · have hl : l0 = [] := List.length_eq_zero_iff.1 hz
      subst hl
      obtain ⟨p, cap, rfl⟩ := Kd.R_slice HO0.out
      clear hz
      go_wp2
      go_loopg [6, 7, 12] 0 (fun gg _ _ v12 wr => v12 = .int .i64 (0 : Nat) ∧ wr = w1)
      case atStart => exact ⟨by first | rfl | go_num, rfl⟩
      case round =>
        obtain ⟨rfl, rfl⟩ := hrel
        have hltz : ¬ ((0 : Nat) : Int) < ((0 : Nat) : Int) := by omega
        go_wp2
        go_ret
        exact ⟨_, rfl, HO0.out, HB0.out⟩
    · obtain ⟨g, cap, hv, hbg, hgw, _⟩ := Kd.R_form HO0.out (by omega)
      subst hv
      obtain ⟨n, hn⟩ : ∃ n, l0.length = n := ⟨_, rfl⟩
      rw [hn] at hok HO0 hz
      have HN := Lib.hid hn
      have HO1 := Aside0.mk (show Kd.R (Kd.int .i64) 3 w1 w.heap.size (fun _ => True) (.slice (some ⟨g, 0, none⟩) n cap) (thenS l0 l1 0) from HO0.out)
      rw [hn]
      clear hn hgw HO0
      have hnn : n ≤ 9223372036854775807 := by omega
      go_wp2
      go_loopg [6, 7, 12] n (fun gg _ _ v12 wr => ∃ j : Nat, v12 = .int .i64 j ∧ j ≤ n ∧ n - j ≤ gg ∧ Aside0 (Kd.R (Kd.int .i64) 3 wr w.heap.size (fun _ => True) (.slice (some ⟨g, 0, none⟩) n cap) (thenS l0 l1 j)) ∧ Aside0 (Below w.heap.size w wr))
      case atStart => exact ⟨0, by first | rfl | go_num, Nat.zero_le _, by omega, HO1, HB0⟩
      case round =>
        clear HO1 HB0
        obtain ⟨j, rfl, hj, hgj, HO, HB⟩ := hrel
        by_cases hlt : j < n
        · have hltz : (j : Int) < (n : Int) := by omega
          have hsl := thenS_len l0 l1 j
          obtain ⟨ad, ead, hx0⟩ := Kd.at_int (Kd.R_reads' HO.out).2.2 (j : Int) (by omega) (by rw [hsl, HN.out]; omega)
          cases ead
          rw [Int.toNat_natCast, add_plain, thenS_rd l0 l1 j (by rw [HN.out]; exact hlt)] at hx0
          have hset := Lib.hid (thenS_set l0 l1 j (by rw [HN.out]; exact hlt))
          obtain ⟨x, hx⟩ : ∃ x, rd l0 (j : Int) = x := ⟨_, rfl⟩
          rw [hx] at hx0 hset
          obtain ⟨cc, hcl, -, hcc, -⟩ := Kd.R_elem HO.out 0 (j : Int) (by omega) hltz
          have HCL := Aside0.mk hcl
          have HCC := Aside0.mk hcc
          clear hx hsl hcl hcc
          have hM : ∀ y : Int, (Kd.int .i64).M wr w.heap.size (fun _ => False) y (cc.take 0 ++ [.int .i64 y] ++ cc.drop (0 + [Value.int .i64 y].length)) := by
            intro y
            have e1 : cc.take 0 ++ [Value.int .i64 y] ++ cc.drop (0 + [Value.int .i64 y].length) = [.int .i64 y] := by
              rw [List.drop_of_length_le (by rw [HCL.out]; exact Nat.le_refl _)]; rfl
            rw [e1]
            exact rfl
          have HM := Aside0.mk hM
          clear hM
          go_wp2_with (refine Kd.R_store (Kd.int .i64) (w0 := w) w.heap.size rfl rfl 3 (.tmp 19) (.const (.int .i64 (-1))) rfl 3 (j : Int) 0 (thenS l0 l1 j) (-1) (.int .i64 (-1)) [.int .i64 (-1)] cc (fun _ => True) (fun _ => False) rfl (by show _ = (j : Int).toNat * 1 + 0; simp) rfl rfl then_info (by simp [Value.oneCell']) HO.out (by omega) hltz HCL.out HCC.out (Nat.le_refl _) (HM.out (-1)) (fun _ h_ => h_.elim) HB.out ?hk)
          case hk =>
            intro w3 hr3 hb3 hg3
            have HR3 := Aside0.mk hr3
            have HB3 := Aside0.mk hb3
            clear hr3 hb3 hg3 HM HCC HCL hx0
            cases hi : inB x l1.length with
            | false =>
              have HI := Aside0.mk (in_plain x l1.length false w3 hi)
              have HX := Lib.hid (show (thenS l0 l1 j).set (j : Int).toNat (-1) = thenS l0 l1 (j + 1) by
                have := hset.out
                unfold thenX at this
                rw [if_neg (by rw [hi]; simp)] at this
                exact this)
              clear hi hset
              go_wp2_with fail
              refine HI.out.mono ?_
              rintro e w4 ⟨rfl, hd⟩
              obtain ⟨nd, rfl⟩ := hd.out
              clear hd HI
              go_wp2
              go_roundg (n - (j + 1))
              case measure => omega
              case rel => exact ⟨j + 1, by go_num, by omega, Nat.le_refl _, ⟨by rw [← HX.out]; exact Kd.R_drewN HR3.out _⟩, ⟨pw_below_drewN HB3.out _⟩⟩
            | true =>
              have HI := Aside0.mk (in_plain x l1.length true w3 hi)
              obtain ⟨hi0, hi1⟩ := inB_true hi
              have HX := Lib.hid (show ((thenS l0 l1 j).set (j : Int).toNat (-1)).set (j : Int).toNat (rd l1 x) = thenS l0 l1 (j + 1) by
                have := hset.out
                unfold thenX at this
                rw [if_pos hi] at this
                rw [List.set_set]
                exact this)
              obtain ⟨ad1, ead1, hy0⟩ := Kd.at_int (Kd.C_below HC1.out HB3.out) x hi0 hi1
              cases ead1
              clear hi hset
              generalize rd l1 x = y at *
              have hl2 : ((thenS l0 l1 j).set (j : Int).toNat (-1)).length = n := by rw [List.length_set, thenS_len, HN.out]
              obtain ⟨cc, hcl, -, hcc, -⟩ := Kd.R_elem HR3.out 0 (j : Int) (by omega) hltz
              have HCL := Aside0.mk hcl
              have HCC := Aside0.mk hcc
              clear hcl hcc hl2
              go_wp2_with fail
              refine HI.out.mono ?_
              rintro e w4 ⟨rfl, hd⟩
              obtain ⟨nd, rfl⟩ := hd.out
              clear hd HI
              have HM : Aside0 ((Kd.int .i64).M (w3.drewN nd) w.heap.size (fun _ => False) y (cc.take 0 ++ [.int .i64 y] ++ cc.drop (0 + [Value.int .i64 y].length))) := by
                have e1 : cc.take 0 ++ [Value.int .i64 y] ++ cc.drop (0 + [Value.int .i64 y].length) = [.int .i64 y] := by
                  rw [List.drop_of_length_le (by rw [HCL.out]; exact Nat.le_refl _)]; rfl
                rw [e1]
                exact ⟨rfl⟩
              go_wp2_with (refine Kd.R_store (Kd.int .i64) (w0 := w) w.heap.size rfl rfl 3 (.tmp 30) (.tmp 29) rfl 3 (j : Int) 0 ((thenS l0 l1 j).set (j : Int).toNat (-1)) y (.int .i64 y) [.int .i64 y] cc (fun _ => True) (fun _ => False) rfl (by show _ = (j : Int).toNat * 1 + 0; simp) rfl rfl then_info (by simp [Value.oneCell']) (Kd.R_drewN HR3.out nd) (by omega) hltz HCL.out HCC.out (Nat.le_refl _) HM.out (fun _ h_ => h_.elim) (pw_below_drewN HB3.out nd) ?hk2)
              case hk2 =>
                intro w5 hr5 hb5 hg5
                have HR5 := Aside0.mk hr5
                have HB5 := Aside0.mk hb5
                clear hr5 hb5 hg5
                go_wp2
                go_roundg (n - (j + 1))
                case measure => omega
                case rel => exact ⟨j + 1, by go_num, by omega, Nat.le_refl _, ⟨by rw [← HX.out]; exact HR5.out⟩, HB5⟩
        · have hltz : ¬ (j : Int) < (n : Int) := by omega
          obtain rfl : n = j := by omega
          go_wp2
          go_ret
          refine ⟨_, rfl, ?_, HB.out⟩
          have e : thenS l0 l1 n = l0.map (thenX l1) := by
            unfold thenS
            rw [List.take_of_length_le (by rw [HN.out]; exact Nat.le_refl _), List.drop_of_length_le (by rw [HN.out]; exact Nat.le_refl _), List.append_nil]
          rw [← e]
          exact HO.out
  · rw [if_neg hok] at h
    cases h



-- NOT PRINTED: function 9 (oriellaw15_GraphOn)

/-! ### slices_Contains_int_int: function 69 -/
theorem slices_Contains_int_int.at_ (l : List Int) (i : Nat) (x : Int) (hi : i < l.length) (h : rd l (i : Int) = x) : l[i]? = some x := by
  rw [← h, List.getElem?_eq_getElem hi]
  show some l[i] = some (l.getD i 0)
  rw [List.getD_eq_getElem?_getD, List.getElem?_eq_getElem hi]
  rfl
def slices_Contains_int_int.post (l : List Int) (v : Int) (e : Ending) : Prop := ∃ r : Int, e = .returned (.int .i64 r) ∧ decide (0 ≤ r) = l.contains v
set_option maxHeartbeats 2000000 in
set_option maxRecDepth 100000 in
theorem slices_Contains_int_int.index (A : Option Addr) (c : Nat) (l : List Int) (v : Int) (w : World) (hC : Kd.C (Kd.int .i64) w A l.length l) :
    Calls Try.prog 87 #[.slice A l.length c, .int .i64 v] w fun e w' => slices_Contains_int_int.post l v e ∧ w = w' := by
  have hmax := Kd.C_max hC
  have HC := Lib.hid hC
  clear hC
  obtain ⟨n, hn⟩ : ∃ n, l.length = n := ⟨_, rfl⟩
  rw [hn] at hmax ⊢
  have HN := Lib.hid hn
  clear hn
  go_enter Try.func87, Try.ntmps87
  go_wp2
  go_loopg [5, 8] n (fun gg _ s8 wr => ∃ kk : Nat, kk ≤ n ∧ n - kk ≤ gg ∧ s8 = .int .i64 kk ∧ wr = w ∧ Aside0 (∀ j, j < kk → l[j]? ≠ some v))
  case atStart => exact ⟨0, Nat.zero_le _, by omega, rfl, rfl, ⟨fun j hj => absurd hj (Nat.not_lt_zero _)⟩⟩
  case round =>
    obtain ⟨kk, hkk, hg, rfl, rfl, HA⟩ := hrel
    by_cases hlt : kk < n
    · have hltz : (kk : Int) < (n : Int) := by omega
      obtain ⟨ad, ead, hx0⟩ := Kd.at_int HC.out (kk : Int) (by omega) (by rw [HN.out]; omega)
      rw [Int.toNat_natCast] at hx0
      have hq0 := Lib.hid (slices_Contains_int_int.at_ l kk _ (by rw [HN.out]; exact hlt) rfl)
      generalize rd l (kk : Int) = x at hx0 hq0
      cases ead
      by_cases hq : v = x
      · subst hq
        have e1 : (v == v) = true := beq_self_eq_true v
        go_wp2
        go_ret
        refine ⟨⟨_, rfl, ?_⟩, rfl⟩
        have : v ∈ l := List.mem_iff_getElem?.2 ⟨kk, hq0.out⟩
        rw [List.contains_iff_mem.2 this]
        exact decide_eq_true (Int.natCast_nonneg _)
      · have e1 : (v == x) = false := beq_eq_false_iff_ne.2 hq
        have HQ := Lib.hid hq
        clear hq
        go_wp2
        go_roundg (n - (kk + 1))
        case measure => omega
        case rel =>
          refine ⟨kk + 1, by omega, by omega, by go_num, rfl, ⟨fun j hj => ?_⟩⟩
          by_cases e : j = kk
          · subst e
            rw [hq0.out]
            intro h
            injection h with h
            exact HQ.out h.symm
          · exact HA.out j (by omega)
    · have hltz : ¬ (kk : Int) < (n : Int) := by omega
      have : kk = n := by omega
      subst this
      go_wp2
      go_ret
      refine ⟨⟨_, rfl, ?_⟩, rfl⟩
      have : ¬ v ∈ l := fun h => by
        obtain ⟨j, hj⟩ := List.mem_iff_getElem?.1 h
        have hjl := (List.getElem?_eq_some_iff.1 hj).1
        exact HA.out j (by rw [HN.out] at hjl; exact hjl) hj
      have h2 : l.contains v = false := by
        rw [← Bool.not_eq_true]; exact fun h => this (List.contains_iff_mem.1 h)
      rw [h2]; rfl
def slices_Contains_int_int.f (a0 : List Int) (a1 : Int) : Option (Bool) := some (a0.contains a1)
theorem slices_Contains_int_int.calls (A0 : Option Addr) (c0 : Nat) (l0 : List Int) (a1 : Int) (r : Bool) (w : World) (hr0 : Kd.C (Kd.int .i64) w A0 l0.length l0) (hc0 : l0.length ≤ c0) (h : slices_Contains_int_int.f l0 a1 = some r) :
    Calls Try.prog 69 #[.slice A0 l0.length c0, .int .i64 a1] w fun e w' => e = .returned (.bool r) ∧ Drawn0 w w' := by
  obtain rfl := Option.some.inj h
  have hI := slices_Contains_int_int.index A0 c0 l0 a1 w hr0
  obtain ⟨q, hq⟩ : ∃ q, l0.contains a1 = q := ⟨_, rfl⟩
  rw [hq]
  have HI := Lib.hid hI
  have HQ := Lib.hid hq
  clear hI hr0 h hq
  generalize l0.length = n at HI hc0 ⊢
  go_enter Try.func69, Try.ntmps69
  go_wp2_with fail
  refine HI.out.mono ?_
  rintro e w' ⟨⟨r0, rfl, h0⟩, rfl⟩
  have H0 := Lib.hid h0
  clear h0
  go_wp2
  go_ret
  refine ⟨?_, Drawn0.refl _⟩
  rw [← HQ.out, ← H0.out]
  rfl



/-! ### graph_New: function 37 -/
def graph_New.f (n : Int) (m : List Int) : Option (List Int) := if n > 16777216 then some [] else some (whereL (fun i => !m.contains i) (max n 0))
set_option maxHeartbeats 2000000 in
set_option maxRecDepth 100000 in
theorem new_closure (Bm : Nat) (A : Option Addr) (c : Nat) (m : List Int) (i : Int) (w : World) (hcm : w.cell? ⟨Bm, 0, none⟩ = some (.slice A m.length c)) (hc : m.length ≤ c) (hC : Kd.C (Kd.int .i64) w A m.length m) :
    Calls Try.prog 68 (#[.int .i64 i] ++ #[.pointer (some ⟨Bm, 0, none⟩)]) w fun e w' => e = .returned (.bool (!m.contains i)) ∧ Below w.heap.size w w' := by
  have hu24 := Try.underlying24
  show Calls Try.prog 68 #[.int .i64 i, .pointer (some ⟨Bm, 0, none⟩)] w _
  have HI := Aside0.mk (slices_Contains_int_int.calls A c m i (m.contains i) w hC hc rfl)
  clear hC
  generalize m.contains i = b at *
  go_enter Try.func68, Try.ntmps68
  go_wp2_with fail
  refine HI.out.mono ?_
  rintro e w1 ⟨rfl, hd⟩
  obtain ⟨nd, rfl⟩ := hd.out
  clear hd
  go_wp2
  go_ret
  exact ⟨rfl, pw_below_drewN (Below.refl _ _) _⟩
set_option maxHeartbeats 2000000 in
set_option maxRecDepth 100000 in
theorem graph_New.calls (a0 : Int) (A1 : Option Addr) (c1 : Nat) (l1 : List Int) (r : List Int) (w : World) (hr1 : Kd.C (Kd.int .i64) w A1 l1.length l1) (hc1 : l1.length ≤ c1) (h : graph_New.f a0 l1 = some r) :
    Calls Try.prog 37 #[.int .i64 a0, .slice A1 l1.length c1] w fun e w' => ∃ v0_ : Value, e = .returned (v0_) ∧ Kd.R (Kd.int .i64) 3 w' w.heap.size (fun _ => True) v0_ r ∧ Below w.heap.size w w' := by
  have hu24 := Try.underlying24
  unfold graph_New.f at h
  have HC := Aside0.mk hr1
  clear hr1
  by_cases hn : a0 > 16777216
  · rw [if_pos hn] at h
    obtain rfl := Option.some.inj h
    have hn2 : 16777216 < a0 := hn
    clear h
    go_enter Try.func37, Try.ntmps37
    go_wp2
    go_ret
    exact ⟨_, rfl, Kd.R_nil _ _ _ _ _, below_alloc (Below.refl _ _) _⟩
  · rw [if_neg hn] at h
    obtain rfl := Option.some.inj h
    clear h
    have eg : ∀ args w, (callFunc 68 args).run Try.prog w = .ok (.enter 68 args) w := enters_of Try.func68 (by kernel_rfl) rfl
    have HW := Aside0.mk (where_calls (fun i => !l1.contains i) 68 #[.pointer (some ⟨w.heap.size, 0, none⟩)] eg (max a0 0) (by omega) (w.alloc (.cells #[.slice A1 l1.length c1] 24)) (fun W i hb h0 h1 =>
      new_closure w.heap.size A1 c1 l1 i W ((hb.cell (p := ⟨w.heap.size, 0, none⟩) (by simp)).trans (mb_cell1 (blk_new w _))) hc1 (Kd.C_below (Kd.C_alloc HC.out _) hb)))
    clear eg
    by_cases h0 : a0 < 0
    · have e0 : max a0 0 = 0 := by omega
      have h0' : ¬ 0 < a0 := by omega
      have h0'' : ¬ 0 ≤ a0 := by omega
      rw [e0] at HW ⊢
      clear e0
      go_enter Try.func37, Try.ntmps37
      go_wp2_with fail
      refine HW.out.mono ?_
      rintro e w1 ⟨v0, rfl, ho, hb⟩
      have HO := Aside0.mk (Kd.R_lower ho (by simp : w.heap.size ≤ _))
      have HB := Aside0.mk (below_then (below_alloc (Below.refl w.heap.size w) _) (by simp) hb)
      clear ho hb
      go_wp2
      go_ret
      exact ⟨v0, rfl, HO.out, HB.out⟩
    · have e0 : max a0 0 = a0 := by omega
      have h0' : 0 ≤ a0 := by omega
      rw [e0] at HW ⊢
      clear e0
      go_enter Try.func37, Try.ntmps37
      go_wp2_with fail
      refine HW.out.mono ?_
      rintro e w1 ⟨v0, rfl, ho, hb⟩
      have HO := Aside0.mk (Kd.R_lower ho (by simp : w.heap.size ≤ _))
      have HB := Aside0.mk (below_then (below_alloc (Below.refl w.heap.size w) _) (by simp) hb)
      clear ho hb
      go_wp2
      go_ret
      exact ⟨v0, rfl, HO.out, HB.out⟩



end Go.Proofs.Ythgjieigpfcekaa.QG
