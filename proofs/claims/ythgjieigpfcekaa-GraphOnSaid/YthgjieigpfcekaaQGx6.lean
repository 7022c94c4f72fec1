-- Laid by this claim's own program (mprint.py in the repo).
import Derived.Test.YthgjieigpfcekaaQGx0
import Derived.Test.YthgjieigpfcekaaQGx1
import Derived.Test.YthgjieigpfcekaaQGx3
import Derived.Test.YthgjieigpfcekaaQGx4
import Derived.Test.YthgjieigpfcekaaQGx5
namespace Go.Proofs.Ythgjieigpfcekaa.QG
open Go.RowKit Go.Proofs.YthgjieigpfcekaaW.PrintWords Go.Proofs.YthgjieigpfcekaaW.PrintLast Go.Proofs.YthgjieigpfcekaaW.PrintMore
attribute [local go_sem] max2_int min2_int max_two min_two max_three min_three max_four min_four   -- for this text's walks alone
set_option linter.unusedVariables false
set_option linter.unusedSimpArgs false

attribute [local go_sem high] eqA34
/-! ### api_Pair_63: function 63 -/
def api_Pair_63.l0 : Nat → List (S34) → List (S34) → Int → Int → Option (Bool)
  | 0, _, _, _, _ => none
  | k + 1, x0, x1, x12, x13 => if x13 < x12 then (if 0 ≤ x13 then (if x13 < (x0.length : Int) then (if x13 < (x1.length : Int) then (if (!(((rd_T34 x0 x13).f0) == ((rd_T34 x1 x13).f0)) || (!(((rd_T34 x0 x13).f1) == ((rd_T34 x1 x13).f1)))) = true then (some false) else (api_Pair_63.l0 k x0 x1 x12 (wrap64 (x13 + 1)))) else (none)) else (none)) else (none)) else (some true)
def api_Pair_63.f (k : Nat) (l0 : List (S34)) (l1 : List (S34)) : Option (Bool) := if (l0.length : Int) = (l1.length : Int) then (api_Pair_63.l0 k l0 l1 (l0.length : Int) 0) else (some false)
theorem api_Pair_63.mono_l : ∀ k, (∀ y0 y1 y2 y3, LeO (api_Pair_63.l0 k y0 y1 y2 y3) (api_Pair_63.l0 (k + 1) y0 y1 y2 y3))
  | 0 => fun _ _ _ _ r h => by simp [api_Pair_63.l0] at h
  | k + 1 => by
    have ih0 := api_Pair_63.mono_l k
    · intro y0 y1 y2 y3
      unfold api_Pair_63.l0
      repeat' first
      | (with_reducible exact ih0 _ _ _ _)
      | (with_reducible exact LeO.refl _)
      | (with_reducible exact LeO.none _)
      | (with_reducible refine LeO.ite ?_ ?_)
      | (with_reducible refine LeO.bind ?_ (fun _ => ?_))
      | exact ih0 _ _ _ _
      | exact LeO.none _
      | refine LeO.ite ?_ ?_
      | refine LeO.bind ?_ (fun _ => ?_)
theorem api_Pair_63.mono : ∀ a0 a1 k, LeO (api_Pair_63.f k a0 a1) (api_Pair_63.f (k + 1) a0 a1) := by
  intro a0 a1 k
  have ih0 := api_Pair_63.mono_l k
  unfold api_Pair_63.f
  repeat' first
      | (with_reducible exact ih0 _ _ _ _)
      | (with_reducible exact LeO.refl _)
      | (with_reducible exact LeO.none _)
      | (with_reducible refine LeO.ite ?_ ?_)
      | (with_reducible refine LeO.bind ?_ (fun _ => ?_))
      | exact ih0 _ _ _ _
      | exact LeO.none _
      | refine LeO.ite ?_ ?_
      | refine LeO.bind ?_ (fun _ => ?_)
set_option maxHeartbeats 8000000 in
set_option maxRecDepth 100000 in
theorem api_Pair_63.calls (k : Nat) (A0 : Option Addr) (c0 : Nat) (l0 : List (S34)) (A1 : Option Addr) (c1 : Nat) (l1 : List (S34)) (r : Bool) (w : World) (hr0 : Kd.C k34 w A0 l0.length l0) (hc0 : l0.length ≤ c0) (hr1 : Kd.C k34 w A1 l1.length l1) (hc1 : l1.length ≤ c1) (h : api_Pair_63.f k l0 l1 = some r) :
    Calls Try.prog 63 #[.slice A0 l0.length c0, .slice A1 l1.length c1] w fun e w' => e = .returned (.bool r) ∧ Drawn0 w w' := by
  have hu34 := Try.underlying34
  have HR0 := Aside0.mk hr0
  have HC0 := Aside0.mk hc0
  clear hr0 hc0
  have HR1 := Aside0.mk hr1
  have HC1 := Aside0.mk hc1
  clear hr1 hc1
  have H : (if (l0.length : Int) = (l1.length : Int) then (api_Pair_63.l0 k l0 l1 (l0.length : Int) 0) else (some false)) = some r := h
  clear h
  by_cases c3 : (l0.length : Int) = (l1.length : Int)
  · rw [if_pos c3] at H
    have c3b0 : ((l0.length : Int) == (l1.length : Int)) = true := beq_iff_eq.mpr c3
    have c3b1 : ((l0.length : Int) != (l1.length : Int)) = false := bne_eq_false_iff_eq.mpr c3
    have c3b2 : (l0.length == l1.length) = true := by first | simpa using c3 | (simp at c3 ⊢; omega)
    clear c3
    have H' := Aside0.mk H
    clear H
    go_enter Try.func63, Try.ntmps63
    go_wp2
    repeat (go_quiet (fail); try go_wp2)
    go_loopg [13] k (fun kq v13 w' => ∃ (x13_1 : Int), v13 = .int .i64 x13_1 ∧ Aside0 (api_Pair_63.l0 kq l0 l1 (l0.length : Int) x13_1 = some r) ∧ Aside0 (kq ≤ k) ∧ Drawn0 w w')
    case atStart => exact ⟨(0), (by first | rfl | (simp; done) | (simp [*]; done)), H', ⟨Nat.le_refl _⟩, by repeat (first | exact Drawn0.refl _ | apply Drawn0.step)⟩
    case round =>
      clear H'
      try clear c1
      try clear p2
      try clear c3
      try clear c3b0
      try clear c3b1
      try clear c3b2
      obtain ⟨x13_1, rfl, HA, HK1, ⟨m1, rfl⟩⟩ := hrel
      cases gk with
      | zero => exact absurd HA.out (by simp [api_Pair_63.l0])
      | succ k1 =>
        have H := HA.out
        clear HA
        simp only [api_Pair_63.l0] at H
        by_cases c4 : x13_1 < (l0.length : Int)
        · rw [if_pos c4] at H
          have c4b0 : decide (x13_1 < (l0.length : Int)) = true := decide_eq_true c4
          clear c4
          by_cases c5 : 0 ≤ x13_1
          · rw [if_pos c5] at H
            have c5b0 : decide (0 ≤ x13_1) = true := decide_eq_true c5
            clear c5
            by_cases c6 : x13_1 < (l0.length : Int)
            · rw [if_pos c6] at H
              have c6b0 : decide (x13_1 < (l0.length : Int)) = true := decide_eq_true c6
              clear c6
              by_cases c7 : x13_1 < (l1.length : Int)
              · rw [if_pos c7] at H
                have c7b0 : decide (x13_1 < (l1.length : Int)) = true := decide_eq_true c7
                clear c7
                by_cases c8 : (!(((rd_T34 l0 x13_1).f0) == ((rd_T34 l1 x13_1).f0)) || (!(((rd_T34 l0 x13_1).f1) == ((rd_T34 l1 x13_1).f1)))) = true
                · rw [if_pos c8] at H
                  have c8b0 : (!(((rd_T34 l0 x13_1).f0) == ((rd_T34 l1 x13_1).f0)) || (!(((rd_T34 l0 x13_1).f1) == ((rd_T34 l1 x13_1).f1)))) = true := c8
                  clear c8
                  obtain rfl := Option.some.inj H
                  have p125 : 0 ≤ (x13_1 : Int) := of_decide_eq_true (by first | (with_reducible assumption) | assumption)
                  have q125 : x13_1 < (l0.length : Int) := of_decide_eq_true (by first | (with_reducible assumption) | assumption)
                  obtain ⟨ad125, e125, hx125_0, hx125_1⟩ := at_T34 HR0.out x13_1 p125 q125
                  cases e125
                  replace p125 := eq_true p125
                  replace q125 := eq_true q125
                  have p126 : 0 ≤ (x13_1 : Int) := of_decide_eq_true (by first | (with_reducible assumption) | assumption)
                  have q126 : x13_1 < (l1.length : Int) := of_decide_eq_true (by first | (with_reducible assumption) | assumption)
                  obtain ⟨ad126, e126, hx126_0, hx126_1⟩ := at_T34 HR1.out x13_1 p126 q126
                  cases e126
                  replace p126 := eq_true p126
                  replace q126 := eq_true q126
                  go_wp2
                  repeat (go_quiet (fail); try go_wp2)
                  go_ret
                  exact ⟨by first | rfl | (simp; done) | (simp [*]; done), by repeat (first | exact Drawn0.refl _ | apply Drawn0.step)⟩
                · rw [if_neg c8] at H
                  have c8b0 : (!(((rd_T34 l0 x13_1).f0) == ((rd_T34 l1 x13_1).f0)) || (!(((rd_T34 l0 x13_1).f1) == ((rd_T34 l1 x13_1).f1)))) = false := by simpa using c8
                  clear c8
                  have H' := Aside0.mk H
                  clear H
                  have p125 : 0 ≤ (x13_1 : Int) := of_decide_eq_true (by first | (with_reducible assumption) | assumption)
                  have q125 : x13_1 < (l0.length : Int) := of_decide_eq_true (by first | (with_reducible assumption) | assumption)
                  obtain ⟨ad125, e125, hx125_0, hx125_1⟩ := at_T34 HR0.out x13_1 p125 q125
                  cases e125
                  replace p125 := eq_true p125
                  replace q125 := eq_true q125
                  have p126 : 0 ≤ (x13_1 : Int) := of_decide_eq_true (by first | (with_reducible assumption) | assumption)
                  have q126 : x13_1 < (l1.length : Int) := of_decide_eq_true (by first | (with_reducible assumption) | assumption)
                  obtain ⟨ad126, e126, hx126_0, hx126_1⟩ := at_T34 HR1.out x13_1 p126 q126
                  cases e126
                  replace p126 := eq_true p126
                  replace q126 := eq_true q126
                  go_wp2
                  repeat (go_quiet (fail); try go_wp2)
                  go_roundg k1
                  case measure => have := HK1.out; omega
                  case rel => exact ⟨(wrap64 (x13_1 + 1)), (by first | rfl | (simp; done) | (simp [*]; done)), H', ⟨by have := HK1.out; omega⟩, by repeat (first | exact Drawn0.refl _ | apply Drawn0.step)⟩
              · rw [if_neg c7] at H
                exact absurd H (by simp)
            · rw [if_neg c6] at H
              exact absurd H (by simp)
          · rw [if_neg c5] at H
            exact absurd H (by simp)
        · rw [if_neg c4] at H
          have c4b0 : decide (x13_1 < (l0.length : Int)) = false := decide_eq_false c4
          clear c4
          obtain rfl := Option.some.inj H
          go_wp2
          repeat (go_quiet (fail); try go_wp2)
          go_ret
          exact ⟨by first | rfl | (simp; done) | (simp [*]; done), by repeat (first | exact Drawn0.refl _ | apply Drawn0.step)⟩
  · rw [if_neg c3] at H
    have c3b0 : ((l0.length : Int) == (l1.length : Int)) = false := beq_eq_false_iff_ne.mpr c3
    have c3b1 : ((l0.length : Int) != (l1.length : Int)) = true := bne_iff_ne.mpr c3
    have c3b2 : (l0.length == l1.length) = false := by first | simpa using c3 | (simp at c3 ⊢; omega)
    obtain rfl := Option.some.inj H
    go_enter Try.func63, Try.ntmps63
    go_wp2
    repeat (go_quiet (fail); try go_wp2)
    go_ret
    exact ⟨by first | rfl | (simp; done) | (simp [*]; done), by repeat (first | exact Drawn0.refl _ | apply Drawn0.step)⟩

/-! ### graph_Right: function 30 -/
def eqL : List S34 → List S34 → Bool
  | [], [] => true
  | x :: a, y :: b => eqP x y && eqL a b
  | _, _ => false
theorem eqL_iff : ∀ (a b : List S34), eqL a b = true ↔ a = b
  | [], [] => by simp [eqL]
  | [], y :: b => by simp [eqL]
  | x :: a, [] => by simp [eqL]
  | x :: a, y :: b => by
    rw [eqL, Bool.and_eq_true, eqL_iff a b, List.cons.injEq]
    constructor
    · rintro ⟨h1, h2⟩
      exact ⟨eqP_eq h1, h2⟩
    · rintro ⟨rfl, h2⟩
      exact ⟨by simp [eqP], h2⟩
theorem eqL_len : ∀ (a b : List S34), a.length ≠ b.length → eqL a b = false := by
  intro a b h
  rw [← Bool.not_eq_true, eqL_iff]
  rintro rfl
  exact h rfl
set_option maxHeartbeats 4000000 in
set_option maxRecDepth 100000 in
theorem pair_equal (A0 : Option Addr) (c0 : Nat) (l0 : List S34) (A1 : Option Addr) (c1 : Nat) (l1 : List S34) (w : World) (hr0 : Kd.C k34 w A0 l0.length l0) (hc0 : l0.length ≤ c0) (hr1 : Kd.C k34 w A1 l1.length l1) (hc1 : l1.length ≤ c1) :
    Calls Try.prog 63 #[.slice A0 l0.length c0, .slice A1 l1.length c1] w fun e w' => e = .returned (.bool (eqL l0 l1)) ∧ Drawn0 w w' := by
  have hu2 := Try.underlying34
  have hpg := pr_guard
  have hmax0 := Kd.C_max hr0
  have hmax1 := Kd.C_max hr1
  have HC0 := Lib.hid hr0
  have HC1 := Lib.hid hr1
  clear hr0 hr1
  by_cases hlen : l0.length = l1.length
  · obtain ⟨n, hn⟩ : ∃ n, l0.length = n := ⟨_, rfl⟩
    have hn1 : l1.length = n := by omega
    rw [hn] at hmax0 hc0 ⊢
    rw [hn1] at hmax1 hc1 ⊢
    have HN := Lib.hid hn
    have HN1 := Lib.hid hn1
    clear hn hn1 hlen
    obtain ⟨res, hres⟩ : ∃ res, eqL l0 l1 = res := ⟨_, rfl⟩
    rw [hres]
    have HR0 := Aside0.mk (show eqL (l0.drop 0) (l1.drop 0) = res from hres)
    clear hres
    go_enter Try.func63, Try.ntmps63
    go_wp2
    go_loopg [5, 13] n (fun gg _ s13 wr => ∃ j : Nat, s13 = .int .i64 j ∧ j ≤ n ∧ n - j ≤ gg ∧ Aside0 (eqL (l0.drop j) (l1.drop j) = res) ∧ Aside0 (Drawn0 w wr))
    case atStart => exact ⟨0, rfl, by omega, by omega, HR0, ⟨Drawn0.refl _⟩⟩
    case round =>
      clear HR0
      obtain ⟨j, rfl, hj, hgj, HR, HD⟩ := hrel
      by_cases hlt : j < n
      · have hltz : (j : Int) < (n : Int) := by omega
        obtain ⟨ad0, ead0, hx0, hx1⟩ := at_T34 (Kd.C_below HC0.out HD.out.below) (j : Int) (by omega) (by rw [HN.out]; omega)
        obtain ⟨ad1, ead1, hy0, hy1⟩ := at_T34 (Kd.C_below HC1.out HD.out.below) (j : Int) (by omega) (by rw [HN1.out]; omega)
        rw [Int.toNat_natCast] at hx0 hx1 hy0 hy1
        have hd0 := drop_at l0 j (by rw [HN.out]; exact hlt)
        have hd1 := drop_at l1 j (by rw [HN1.out]; exact hlt)
        have hq := HR.out
        rw [hd0, hd1, eqL] at hq
        have HQ := Aside0.mk hq
        clear hd0 hd1 hq HR
        generalize rd_T34 l0 (j : Int) = x at hx0 hx1 HQ
        generalize rd_T34 l1 (j : Int) = y at hy0 hy1 HQ
        obtain ⟨a, b⟩ := x
        obtain ⟨c, d⟩ := y
        dsimp only at hx0 hx1 hy0 hy1
        cases ead0
        cases ead1
        by_cases h1 : a = c
        · subst h1
          by_cases h2 : b = d
          · subst h2
            have HR2 := Aside0.mk (show eqL (l0.drop (j + 1)) (l1.drop (j + 1)) = res by have := HQ.out; simpa [eqP] using this)
            clear HQ
            go_wp2
            go_quiet (fail)
            go_wp2
            go_roundg (n - (j + 1))
            case measure => omega
            case rel => exact ⟨j + 1, by go_num, by omega, Nat.le_refl _, HR2, ⟨HD.out.step _⟩⟩
          · have be2 : (b == d) = false := beq_eq_false_iff_ne.2 h2
            obtain rfl : res = false := by have := HQ.out; rw [show eqP ⟨a, b⟩ ⟨a, d⟩ = false by simp [eqP, h2], Bool.false_and] at this; exact this.symm
            clear HQ
            go_wp2
            go_quiet (fail)
            go_wp2
            go_ret
            exact ⟨rfl, HD.out.step _⟩
        · have be1 : (a == c) = false := beq_eq_false_iff_ne.2 h1
          obtain rfl : res = false := by have := HQ.out; rw [show eqP ⟨a, b⟩ ⟨c, d⟩ = false by simp [eqP, h1], Bool.false_and] at this; exact this.symm
          clear HQ
          go_wp2
          go_quiet (fail)
          go_wp2
          go_ret
          exact ⟨rfl, HD.out.step _⟩
      · have hltz : ¬ (j : Int) < (n : Int) := by omega
        obtain rfl : j = n := by omega
        have hq := HR.out
        rw [List.drop_of_length_le (by rw [HN.out]; exact Nat.le_refl _), List.drop_of_length_le (by rw [HN1.out]; exact Nat.le_refl _)] at hq
        obtain rfl : true = res := hq
        clear HR
        go_wp2
        go_ret
        exact ⟨rfl, HD.out⟩
  · rw [eqL_len _ _ hlen]
    have hne : ¬ (l0.length : Int) = (l1.length : Int) := by omega
    have bne : ((l0.length : Int) == (l1.length : Int)) = false := beq_eq_false_iff_ne.2 hne
    go_enter Try.func63, Try.ntmps63
    go_wp2
    go_ret
    exact ⟨rfl, Drawn0.refl _⟩
/-- Is a number a declaration's, in a space? -/
def decB (l : List S92) (o sp : Int) : Bool := inB o l.length && ((rd_T92 l o).f4 && ((rd_T92 l o).f3 == sp))
set_option maxHeartbeats 4000000 in
set_option maxRecDepth 100000 in
theorem right_closure (Bl : Nat) (A : Option Addr) (c : Nat) (l : List S92) (o sp : Int) (w : World)
    (hg : w.cell? ⟨Bl, 0, none⟩ = some (.slice A l.length c)) (hC : Kd.C k92 w A l.length l) :
    Calls Try.prog 61 #[.int .i64 o, .int .i64 sp, .pointer (some ⟨Bl, 0, none⟩)] w fun e w' => e = .returned (.bool (decB l o sp)) ∧ Drawn0 w w' := by
  have hu52 := Try.underlying52
  have hu92 := Try.underlying92
  unfold decB
  obtain ⟨n, hn⟩ : ∃ n, l.length = n := ⟨_, rfl⟩
  rw [hn] at hg ⊢
  have HN := Lib.hid hn
  clear hn
  cases h0 : inB o n with
  | false =>
    have i0 := Aside0.mk (fun W => in_plain o n false W h0)
    clear h0
    go_enter Try.func61, Try.ntmps61
    go_wp2_with fail
    refine (i0.out _).mono ?_
    rintro e w1 ⟨rfl, hd⟩
    have HD := Aside0.mk hd
    obtain ⟨nd, rfl⟩ := hd.out
    clear hd
    go_wp2
    go_ret
    exact ⟨rfl, HD.out⟩
  | true =>
    have i0 := Aside0.mk (fun W => in_plain o n true W h0)
    obtain ⟨ha0, ha1⟩ := inB_true h0
    clear h0
    obtain ⟨ad, ead, -, -, -, hx3, hx4⟩ := at_T92 hC o ha0 (by rw [HN.out]; exact ha1)
    cases ead
    clear hC
    generalize (rd_T92 l o).f4 = d at *
    generalize (rd_T92 l o).f3 = s at *
    cases d with
    | false =>
      go_enter Try.func61, Try.ntmps61
      go_wp2_with fail
      refine (i0.out _).mono ?_
      rintro e w1 ⟨rfl, hd⟩
      have HD := Aside0.mk hd
      obtain ⟨nd, rfl⟩ := hd.out
      clear hd i0
      go_wp2
      go_ret
      exact ⟨rfl, HD.out⟩
    | true =>
      go_enter Try.func61, Try.ntmps61
      go_wp2_with fail
      refine (i0.out _).mono ?_
      rintro e w1 ⟨rfl, hd⟩
      have HD := Aside0.mk hd
      obtain ⟨nd, rfl⟩ := hd.out
      clear hd i0
      go_wp2
      go_ret
      exact ⟨by simp, HD.out⟩
theorem right_quiet (Bl : Nat) (A : Option Addr) (c : Nat) (l : List S92) (o sp : Int) (w : World) (r : Bool) (n : Nat)
    (hg : w.cell? ⟨Bl, 0, none⟩ = some (.slice A l.length c)) (hC : Kd.C k92 w A l.length l) (hr : decB l o sp = r) :
    Calls Try.prog 61 #[.int .i64 o, .int .i64 sp, .pointer (some ⟨Bl, 0, none⟩)] (w.drewN n) fun e w'' => e = .returned (.bool r) ∧ ∃ m, w'' = w.drewN m :=
  Calls.quiet_of ((right_closure Bl A c l o sp (w.drewN n) hg (Kd.C_drewN hC n)).mono fun e w' h => ⟨by rw [h.1, hr], h.2.out⟩)
/-- Is an occurrence not right? -/
def rightI (E V : List Int) (l : List S92) (i : Int) (o : S92) : Bool := !(decB l (rd E i) o.f3) || (o.f4 && (!(rd E i == i) || !(rd V i == -1))) || decide (rd V i < -1)
def rightGo (E V : List Int) (l : List S92) : List S92 → Int → Bool
  | [], _ => true
  | o :: r, i => if rightI E V l i o = true then false else rightGo E V l r (i + 1)
def rightP (l : List S92) (p : S34) : Bool := !(inB p.f0 l.length) || !(decB l p.f0 (rd_T92 l p.f0).f3) || !(decB l p.f1 (rd_T92 l p.f0).f3)
def rightPs (l : List S92) : List S34 → Bool
  | [] => true
  | p :: r => if rightP l p = true then false else rightPs l r
def graph_Right.f (k : Nat) (E : List Int) (L : List S34) (V : List Int) (l : List S92) : Option Bool :=
  if E.length = l.length ∧ V.length = l.length then (if rightGo E V l l 0 = true then (if rightPs l L = true then (match_Links.f k L).bind fun r => some (eqL L r) else some false) else some false) else some false
theorem graph_Right.mono : ∀ a0 a1 a2 a3 k, LeO (graph_Right.f k a0 a1 a2 a3) (graph_Right.f (k + 1) a0 a1 a2 a3) := fun _ _ _ _ _ => LeO.refl _
theorem drop_occ (l : List S92) (j : Nat) (h : j < l.length) : l.drop j = rd_T92 l (j : Int) :: l.drop (j + 1) := by
  rw [List.drop_eq_getElem_cons h]
  congr 1
  show _ = l.getD j _
  rw [List.getD_eq_getElem?_getD, List.getElem?_eq_getElem h]
  rfl
set_option maxHeartbeats 4000000 in
set_option maxRecDepth 100000 in
theorem graph_Right.calls (k : Nat) (A0_0 : Option Addr) (c0_0 : Nat) (l0_0 : List Int) (A0_1 : Option Addr) (c0_1 : Nat) (l0_1 : List S34) (A0_2 : Option Addr) (c0_2 : Nat) (l0_2 : List Int) (A1 : Option Addr) (c1 : Nat) (l1 : List (S92)) (r : Bool) (w : World)
    (hr0_0 : Kd.C (Kd.int .i64) w A0_0 l0_0.length l0_0) (hc0_0 : l0_0.length ≤ c0_0) (hr0_1 : Kd.C k34 w A0_1 l0_1.length l0_1) (hc0_1 : l0_1.length ≤ c0_1) (hr0_2 : Kd.C (Kd.int .i64) w A0_2 l0_2.length l0_2) (hc0_2 : l0_2.length ≤ c0_2) (hr1 : Kd.C k92 w A1 l1.length l1) (hc1 : l1.length ≤ c1) (h : graph_Right.f k l0_0 l0_1 l0_2 l1 = some r) :
    Calls Try.prog 30 #[.agg #[.slice A0_0 l0_0.length c0_0, .slice A0_1 l0_1.length c0_1, .slice A0_2 l0_2.length c0_2], .slice A1 l1.length c1] w fun e w' => e = .returned (.bool r) ∧ Below w.heap.size w w' := by
  have hu51 := Try.underlying51
  have hu34 := Try.underlying34
  have hu22 := Try.underlying22
  have hu52 := Try.underlying52
  have hu92 := Try.underlying92
  have HC0 := Aside0.mk hr0_0
  have HC1 := Aside0.mk hr0_1
  have HC2 := Aside0.mk hr0_2
  have HC3 := Aside0.mk hr1
  have hmx := Kd.C_max hr1
  have hmx2 := Kd.C_max hr0_1
  have HK1 := Aside0.mk hc0_1
  clear hr0_0 hr0_1 hr0_2 hc0_2 hc0_0 hr1 hc1 hc0_1
  unfold graph_Right.f at h
  obtain ⟨W2, hW2⟩ : ∃ W2, (w.alloc (.cells #[.slice A0_0 l0_0.length c0_0, .slice A0_1 l0_1.length c0_1, .slice A0_2 l0_2.length c0_2] 51)).alloc (.cells #[.slice A1 l1.length c1] 52) = W2 := ⟨_, rfl⟩
  have HW2 := Lib.hid hW2
  have HB2 := Aside0.mk (show Below w.heap.size w W2 by rw [← hW2]; exact below_alloc (below_alloc (Below.refl _ _) _) _)
  have hk1 : W2.heap[w.heap.size]? = some (.cells #[.slice A0_0 l0_0.length c0_0, .slice A0_1 l0_1.length c0_1, .slice A0_2 l0_2.length c0_2] 51 (0, 0)) := by rw [← hW2]; exact blk_alloc (blk_new w _) _
  have hk2 : W2.heap[w.heap.size + 1]? = some (.cells #[.slice A1 l1.length c1] 52 (0, 0)) := by
    rw [← hW2]
    have := blk_new (w.alloc (.cells #[.slice A0_0 l0_0.length c0_0, .slice A0_1 l0_1.length c0_1, .slice A0_2 l0_2.length c0_2] 51)) (.cells #[.slice A1 l1.length c1] 52)
    simpa only [World.size_alloc] using this
  have hlt2 := blk_lt hk2
  have hcells : ∀ wr, Below W2.heap.size W2 wr → wr.cell? ⟨w.heap.size, 0, none⟩ = some (.slice A0_0 l0_0.length c0_0) ∧ wr.cell? ⟨w.heap.size, 1, none⟩ = some (.slice A0_1 l0_1.length c0_1) ∧ wr.cell? ⟨w.heap.size, 2, none⟩ = some (.slice A0_2 l0_2.length c0_2) ∧ wr.cell? ⟨w.heap.size + 1, 0, none⟩ = some (.slice A1 l1.length c1) := by
    intro wr hb
    have h1 := (hb.block w.heap.size (by omega)).trans hk1
    have h2 := (hb.block (w.heap.size + 1) (by omega)).trans hk2
    refine ⟨?_, ?_, ?_, ?_⟩ <;> simp [World.cell?, h1, h2]
  have HCELL := Lib.hid hcells
  obtain ⟨q0, q1, q2, q3⟩ := hcells W2 (Below.refl _ _)
  clear hcells hW2 hk1 hk2
  obtain ⟨n, hn⟩ : ∃ n, l1.length = n := ⟨_, rfl⟩
  have HN := Lib.hid hn
  by_cases hlen : l0_0.length = n
  · by_cases hlen2 : l0_2.length = n
    · rw [hn, if_pos ⟨hlen, hlen2⟩] at h
      rw [hlen] at q0 HCELL HW2 ⊢
      rw [hlen2] at q2 HCELL HW2 ⊢
      rw [hn] at q3 HCELL hmx HW2 ⊢
      have HN0 := Lib.hid hlen
      have HN2 := Lib.hid hlen2
      clear hn hlen hlen2
      have HH := Lib.hid h
      have HR0 := Aside0.mk (show rightGo l0_0 l0_2 l1 (l1.drop 0) ((0 : Nat) : Int) = rightGo l0_0 l0_2 l1 l1 0 from rfl)
      obtain ⟨RG, hRG⟩ : ∃ RG, rightGo l0_0 l0_2 l1 l1 0 = RG := ⟨_, rfl⟩
      rw [hRG] at HR0 HH
      clear h hRG
      go_enter Try.func30, Try.ntmps30
      go_wp2_with fail
      rw [HW2.out]
      go_wp2
      go_loopg [6, 7, 27] n (fun gg _ _ v27 wr => ∃ j : Nat, v27 = .int .i64 j ∧ j ≤ n ∧ n - j ≤ gg ∧ Aside0 (rightGo l0_0 l0_2 l1 (l1.drop j) (j : Int) = RG) ∧ Aside0 (Below W2.heap.size W2 wr))
      case atStart => exact ⟨0, rfl, Nat.zero_le _, by omega, HR0, ⟨Below.refl _ _⟩⟩
      case round =>
        clear HR0 q0 q1 q2 q3
        obtain ⟨j, rfl, hj, hgj, HP, HB⟩ := hrel
        by_cases hlt : j < n
        · have hltz : (j : Int) < (n : Int) := by omega
          have hBw := below_then HB2.out HB2.out.size HB.out
          obtain ⟨ado, eado, ho0, ho1, ho2, ho3, ho4⟩ := at_T92 (Kd.C_below HC3.out hBw) (j : Int) (by omega) (by rw [HN.out]; omega)
          rw [Int.toNat_natCast] at ho0 ho1 ho2 ho3 ho4
          obtain ⟨q0, q1, q2, q3⟩ := HCELL.out wr HB.out
          have hdr := drop_occ l1 j (by rw [HN.out]; exact hlt)
          have hq := HP.out
          rw [hdr, rightGo] at hq
          have HQ := Aside0.mk hq
          clear hq hdr HP
          generalize rd_T92 l1 (j : Int) = x at ho0 ho1 ho2 ho3 ho4 HQ
          obtain ⟨f0, f1, f2, f3, f4⟩ := x
          dsimp only at ho0 ho1 ho2 ho3 ho4
          cases eado
          obtain ⟨W3, hW3⟩ : ∃ W3, wr.alloc (.cells #[.int .i64 f0, .int .i64 f1, .int .i64 f2, .int .i64 f3, .bool f4] 92) = W3 := ⟨_, rfl⟩
          have hb3 : Below W2.heap.size W2 W3 := by rw [← hW3]; exact below_alloc HB.out _
          have hbw3 := below_then HB2.out HB2.out.size hb3
          obtain ⟨q0', q1', q2', q3'⟩ := HCELL.out W3 hb3
          obtain ⟨ade, eade, he0⟩ := Kd.at_int (Kd.C_below HC0.out hbw3) (j : Int) (by omega) (by rw [HN0.out]; omega)
          obtain ⟨adv, eadv, hv0⟩ := Kd.at_int (Kd.C_below HC2.out hbw3) (j : Int) (by omega) (by rw [HN2.out]; omega)
          rw [Int.toNat_natCast] at he0 hv0
          have hblk : W3.heap[wr.heap.size]? = some (.cells #[.int .i64 f0, .int .i64 f1, .int .i64 f2, .int .i64 f3, .bool f4] 92 (0, 0)) := by rw [← hW3]; exact blk_new wr _
          have y3 : W3.cell? ⟨wr.heap.size, 3, none⟩ = some (.int .i64 f3) := by unfold World.cell?; rw [hblk]; rfl
          have y4 : W3.cell? ⟨wr.heap.size, 4, none⟩ = some (.bool f4) := by unfold World.cell?; rw [hblk]; rfl
          have HW3 := Lib.hid hW3
          have HB3 := Aside0.mk hb3
          have HC3' := Aside0.mk (Kd.C_below HC3.out hbw3)
          have q3n := Lib.hid (show W3.cell? ⟨w.heap.size + 1, 0, none⟩ = some (.slice (some ado) l1.length c1) by rw [HN.out]; exact q3')
          clear hW3 hb3 hbw3 hBw hblk
          obtain ⟨x, hx⟩ : ∃ x, rd l0_0 (j : Int) = x := ⟨_, rfl⟩
          obtain ⟨v, hv⟩ : ∃ v, rd l0_2 (j : Int) = v := ⟨_, rfl⟩
          rw [hx] at he0
          rw [hv] at hv0
          have hri : rightI l0_0 l0_2 l1 (j : Int) ⟨f0, f1, f2, f3, f4⟩ = (!(decB l1 x f3) || (f4 && (!(x == (j : Int)) || !(v == -1))) || decide (v < -1)) := by unfold rightI; rw [hx, hv]
          have HRI := Lib.hid hri
          cases eade
          cases eadv
          clear hx hv hri
          have HBAD : Hid (rightI l0_0 l0_2 l1 (j : Int) ⟨f0, f1, f2, f3, f4⟩ = true → r = false) := Lib.hid (fun hb => by
            have h1 := HQ.out
            rw [if_pos hb] at h1
            have h2 := HH.out
            rw [← h1, if_neg (by simp)] at h2
            exact (Option.some.inj h2).symm)
          have HGOOD : Hid (rightI l0_0 l0_2 l1 (j : Int) ⟨f0, f1, f2, f3, f4⟩ = false → rightGo l0_0 l0_2 l1 (l1.drop (j + 1)) ((j + 1 : Nat) : Int) = RG) := Lib.hid (fun hb => by
            have h1 := HQ.out
            rw [if_neg (by rw [hb]; simp)] at h1
            exact h1)
          clear HQ
          cases hd : decB l1 x f3 with
          | false =>
            have HD := Lib.hid hd
            obtain rfl : r = false := HBAD.out (by rw [HRI.out, hd]; rfl)
            clear hd HBAD HGOOD HRI
            go_wp2_with fail
            rw [HW3.out]
            go_quiet (exact right_quiet (w.heap.size + 1) (some ado) c1 l1 x f3 W3 false _ q3n.out HC3'.out HD.out)
            go_wp2
            go_ret
            exact ⟨rfl, pw_below_drewN (below_then HB2.out HB2.out.size HB3.out) _⟩
          | true =>
            have HD := Lib.hid hd
            rw [hd] at HRI
            clear hd
            cases f4 with
            | false =>
              by_cases hv1 : v < -1
              · have dv := decide_eq_true hv1
                obtain rfl : r = false := HBAD.out (by rw [HRI.out, dv]; rfl)
                clear HBAD HGOOD HRI
                go_wp2_with fail
                rw [HW3.out]
                go_quiet (exact right_quiet (w.heap.size + 1) (some ado) c1 l1 x f3 W3 true _ q3n.out HC3'.out HD.out)
                go_wp2
                go_ret
                exact ⟨rfl, pw_below_drewN (below_then HB2.out HB2.out.size HB3.out) _⟩
              · have dv := decide_eq_false hv1
                have HX := Aside0.mk (HGOOD.out (by rw [HRI.out, dv]; rfl))
                clear HBAD HGOOD HRI
                go_wp2_with fail
                rw [HW3.out]
                go_quiet (exact right_quiet (w.heap.size + 1) (some ado) c1 l1 x f3 W3 true _ q3n.out HC3'.out HD.out)
                go_wp2
                go_roundg (n - (j + 1))
                case measure => omega
                case rel => exact ⟨j + 1, by go_num, by omega, Nat.le_refl _, HX, ⟨pw_below_drewN HB3.out _⟩⟩
            | true =>
              by_cases hxj : x = (j : Int)
              · subst hxj
                have bxj : (((j : Int)) == (j : Int)) = true := beq_self_eq_true _
                by_cases hv2 : v = -1
                · subst hv2
                  have HX := Aside0.mk (HGOOD.out (by rw [HRI.out, bxj]; rfl))
                  clear HBAD HGOOD HRI
                  go_wp2_with fail
                  rw [HW3.out]
                  go_quiet (exact right_quiet (w.heap.size + 1) (some ado) c1 l1 (j : Int) f3 W3 true _ q3n.out HC3'.out HD.out)
                  go_wp2
                  go_roundg (n - (j + 1))
                  case measure => omega
                  case rel => exact ⟨j + 1, by go_num, by omega, Nat.le_refl _, HX, ⟨pw_below_drewN HB3.out _⟩⟩
                · have bv : (v == -1) = false := beq_eq_false_iff_ne.2 hv2
                  obtain rfl : r = false := HBAD.out (by rw [HRI.out, bxj, bv]; rfl)
                  clear HBAD HGOOD HRI
                  go_wp2_with fail
                  rw [HW3.out]
                  go_quiet (exact right_quiet (w.heap.size + 1) (some ado) c1 l1 (j : Int) f3 W3 true _ q3n.out HC3'.out HD.out)
                  go_wp2
                  go_ret
                  exact ⟨rfl, pw_below_drewN (below_then HB2.out HB2.out.size HB3.out) _⟩
              · have bxj : (x == (j : Int)) = false := beq_eq_false_iff_ne.2 hxj
                obtain rfl : r = false := HBAD.out (by rw [HRI.out, bxj]; rfl)
                clear HBAD HGOOD HRI
                go_wp2_with fail
                rw [HW3.out]
                go_quiet (exact right_quiet (w.heap.size + 1) (some ado) c1 l1 x f3 W3 true _ q3n.out HC3'.out HD.out)
                go_wp2
                go_ret
                exact ⟨rfl, pw_below_drewN (below_then HB2.out HB2.out.size HB3.out) _⟩
        · have hltz : ¬ (j : Int) < (n : Int) := by omega
          obtain rfl : n = j := by omega
          have hP := HP.out
          rw [List.drop_of_length_le (by rw [HN.out]; exact Nat.le_refl _)] at hP
          have hP1 : true = RG := hP
          subst hP1
          have hh := HH.out
          rw [if_pos rfl] at hh
          have HB4 := Aside0.mk HB.out
          obtain ⟨q0, q1, q2, q3⟩ := HCELL.out wr HB.out
          clear hP HP HH HB
          obtain ⟨RP, hRP⟩ : ∃ RP, rightPs l1 l0_1 = RP := ⟨_, rfl⟩
          rw [hRP] at hh
          have HH := Lib.hid hh
          have HR1 := Aside0.mk (show rightPs l1 (l0_1.drop 0) = RP from hRP)
          clear hh hRP
          obtain ⟨nL, hnL⟩ : ∃ nL, l0_1.length = nL := ⟨_, rfl⟩
          rw [hnL] at q1 HCELL hmx2
          have HNL := Lib.hid hnL
          clear hnL
          go_wp2
          clear q0 q1 q2 q3
          generalize wr = W4 at *
          go_loopg [9, 75] nL (fun gg _ v75 wz => ∃ i : Nat, v75 = .int .i64 i ∧ i ≤ nL ∧ nL - i ≤ gg ∧ Aside0 (rightPs l1 (l0_1.drop i) = RP) ∧ Aside0 (Below W2.heap.size W2 wz))
          case atStart => exact ⟨0, rfl, Nat.zero_le _, by omega, HR1, HB4⟩
          case round =>
            clear HR1 HB4
            obtain ⟨i, rfl, hi, hgi, HP, HB⟩ := hrel
            by_cases hlt4 : i < nL
            · have hltz : (i : Int) < (nL : Int) := by omega
              have hBw := below_then HB2.out HB2.out.size HB.out
              obtain ⟨ad1, ead1, hx0, hx1⟩ := at_T34 (Kd.C_below HC1.out hBw) (i : Int) (by omega) (by rw [HNL.out]; omega)
              rw [Int.toNat_natCast] at hx0 hx1
              obtain ⟨q0, q1, q2, q3⟩ := HCELL.out wr HB.out
              have hdr := drop_at l0_1 i (by rw [HNL.out]; exact hlt4)
              have hq := HP.out
              rw [hdr, rightPs] at hq
              have HQ := Aside0.mk hq
              clear hq hdr HP
              generalize rd_T34 l0_1 (i : Int) = x at hx0 hx1 HQ
              obtain ⟨a, b⟩ := x
              dsimp only at hx0 hx1
              cases ead1
              obtain ⟨W3, hW3⟩ : ∃ W3, wr.alloc (.cells #[.int .i64 a, .int .i64 b] 34) = W3 := ⟨_, rfl⟩
              have hb3 : Below W2.heap.size W2 W3 := by rw [← hW3]; exact below_alloc HB.out _
              have hbw3 := below_then HB2.out HB2.out.size hb3
              obtain ⟨q0', q1', q2', q3'⟩ := HCELL.out W3 hb3
              have hblk : W3.heap[wr.heap.size]? = some (.cells #[.int .i64 a, .int .i64 b] 34 (0, 0)) := by rw [← hW3]; exact blk_new wr _
              have y0 : W3.cell? ⟨wr.heap.size, 0, none⟩ = some (.int .i64 a) := by unfold World.cell?; rw [hblk]; rfl
              have y1 : W3.cell? ⟨wr.heap.size, 1, none⟩ = some (.int .i64 b) := by unfold World.cell?; rw [hblk]; rfl
              have HW3 := Lib.hid hW3
              have HB3 := Aside0.mk hb3
              have HC3' := Aside0.mk (Kd.C_below HC3.out hbw3)
              clear hW3 hb3 hbw3 hBw hblk
              have hrp : rightP l1 ⟨a, b⟩ = (!(inB a n) || !(decB l1 a (rd_T92 l1 a).f3) || !(decB l1 b (rd_T92 l1 a).f3)) := by unfold rightP; rw [HN.out]
              have HRP := Lib.hid hrp
              have HBAD : Hid (rightP l1 ⟨a, b⟩ = true → r = false) := Lib.hid (fun hb => by
                have h1 := HQ.out
                rw [if_pos hb] at h1
                have h2 := HH.out
                rw [← h1, if_neg (by simp)] at h2
                exact (Option.some.inj h2).symm)
              have HGOOD : Hid (rightP l1 ⟨a, b⟩ = false → rightPs l1 (l0_1.drop (i + 1)) = RP) := Lib.hid (fun hb => by
                have h1 := HQ.out
                rw [if_neg (by rw [hb]; simp)] at h1
                exact h1)
              clear HQ hrp
              cases hi0 : inB a n with
              | false =>
                have HI := Lib.hid hi0
                rw [hi0] at HRP
                clear hi0
                obtain rfl : r = false := HBAD.out (by rw [HRP.out]; rfl)
                clear HBAD HGOOD HRP
                go_wp2_with fail
                rw [HW3.out]
                go_quiet (exact in_quiet a n false W3 _ (by rw [in_inB, HI.out]))
                go_wp2
                go_ret
                exact ⟨rfl, pw_below_drewN (below_then HB2.out HB2.out.size HB3.out) _⟩
              | true =>
                have HI := Lib.hid hi0
                rw [hi0] at HRP
                obtain ⟨ha0, ha1⟩ := inB_true hi0
                clear hi0
                obtain ⟨ado, eado, -, -, -, ho3, -⟩ := at_T92 HC3'.out a ha0 (by rw [HN.out]; exact ha1)
                cases eado
                have q3n := Lib.hid (show W3.cell? ⟨w.heap.size + 1, 0, none⟩ = some (.slice (some ado) l1.length c1) by rw [HN.out]; exact q3')
                generalize (rd_T92 l1 a).f3 = s at *
                cases hA : decB l1 a s with
                | false =>
                  have HA := Lib.hid hA
                  rw [hA] at HRP
                  clear hA
                  obtain rfl : r = false := HBAD.out (by rw [HRP.out]; rfl)
                  clear HBAD HGOOD HRP
                  go_wp2_with fail
                  rw [HW3.out]
                  go_quiet (first | (with_reducible exact in_quiet a n true W3 _ (by rw [in_inB, HI.out])) | exact right_quiet (w.heap.size + 1) (some ado) c1 l1 a s W3 false _ q3n.out HC3'.out HA.out)
                  go_wp2
                  go_ret
                  exact ⟨rfl, pw_below_drewN (below_then HB2.out HB2.out.size HB3.out) _⟩
                | true =>
                  have HA := Lib.hid hA
                  rw [hA] at HRP
                  clear hA
                  cases hB : decB l1 b s with
                  | false =>
                    have HBB := Lib.hid hB
                    rw [hB] at HRP
                    clear hB
                    obtain rfl : r = false := HBAD.out (by rw [HRP.out]; rfl)
                    clear HBAD HGOOD HRP
                    go_wp2_with fail
                    rw [HW3.out]
                    go_quiet (first | (with_reducible exact in_quiet a n true W3 _ (by rw [in_inB, HI.out])) | (with_reducible exact right_quiet (w.heap.size + 1) (some ado) c1 l1 a s W3 true _ q3n.out HC3'.out HA.out) | exact right_quiet (w.heap.size + 1) (some ado) c1 l1 b s W3 false _ q3n.out HC3'.out HBB.out)
                    go_wp2
                    go_ret
                    exact ⟨rfl, pw_below_drewN (below_then HB2.out HB2.out.size HB3.out) _⟩
                  | true =>
                    have HBB := Lib.hid hB
                    rw [hB] at HRP
                    clear hB
                    have HX := Aside0.mk (HGOOD.out (by rw [HRP.out]; rfl))
                    clear HBAD HGOOD HRP
                    go_wp2_with fail
                    rw [HW3.out]
                    go_quiet (first | (with_reducible exact in_quiet a n true W3 _ (by rw [in_inB, HI.out])) | (with_reducible exact right_quiet (w.heap.size + 1) (some ado) c1 l1 a s W3 true _ q3n.out HC3'.out HA.out) | exact right_quiet (w.heap.size + 1) (some ado) c1 l1 b s W3 true _ q3n.out HC3'.out HBB.out)
                    go_wp2
                    go_roundg (nL - (i + 1))
                    case measure => omega
                    case rel => exact ⟨i + 1, by go_num, by omega, Nat.le_refl _, HX, ⟨pw_below_drewN HB3.out _⟩⟩
            · have hltz : ¬ (i : Int) < (nL : Int) := by omega
              obtain rfl : i = nL := by omega
              obtain rfl := HNL.out
              have hP := HP.out
              rw [List.drop_of_length_le (Nat.le_refl _)] at hP
              have hP1 : true = RP := hP
              subst hP1
              have hh := HH.out
              rw [if_pos rfl] at hh
              obtain ⟨rr, hlk, hrr⟩ := Option.bind_eq_some_iff.mp hh
              obtain rfl := Option.some.inj hrr
              have HBz := Aside0.mk (below_then HB2.out HB2.out.size HB.out)
              obtain ⟨q0, q1, q2, q3⟩ := HCELL.out wr HB.out
              have HL := Aside0.mk (fun W (hb : Below wr.heap.size wr W) => match_Links.calls k A0_1 c0_1 l0_1 rr W (Kd.C_below HC1.out (below_then HBz.out HBz.out.size hb)) HK1.out hlk)
              have Q1 := Lib.hid q1
              have HCZ := Aside0.mk (Kd.C_below HC1.out HBz.out)
              clear hh hlk hrr HP hP HH HB HC0 HC1 HC2 HC3 q0 q2 q3 hmx2
              go_wp2_with fail
              go_region_held3 (fun w' => w'.cell? ⟨w.heap.size, 1, none⟩ = some (.slice A0_1 l0_1.length c0_1))
                (first | exact Q1.out | exact pw_cell_below hd.below (pw_cell_below hb Q1.out) | exact pw_cell_below hb Q1.out)
                (first
                  | (go_at_call 17; refine (HL.out _ (below_drew (Below.refl _ _))).mono ?_; rintro e w4 ⟨v1, rfl, ho, hb⟩; obtain ⟨p, cap, rfl, hcp, hCp⟩ := Kd.R_reads ho)
                  | (go_at_call 63; refine (pair_equal A0_1 c0_1 l0_1 p cap rr w4 (Kd.C_below HCZ.out (below_then (below_drew (Below.refl _ _)) (Nat.le_refl _) hb)) HK1.out hCp hcp).mono ?_; rintro e w5 ⟨rfl, hd⟩))
              have HB5 := Aside0.mk (below_then (below_then (below_drew HBz.out) HBz.out.size hb) (Nat.le_trans HBz.out.size hb.size) hd.below)
              clear ho hb hd hCp
              go_wp2
              go_ret
              exact ⟨rfl, HB5.out⟩
    · rw [hn, if_neg (fun hh => hlen2 hh.2)] at h
      obtain rfl := Option.some.inj h
      rw [hlen] at q0 HW2 ⊢
      rw [hn] at q3 HW2 ⊢
      have hne : ¬ (l0_2.length : Int) = (n : Int) := by omega
      have bne : ((l0_2.length : Int) == (n : Int)) = false := beq_eq_false_iff_ne.2 hne
      clear h hn hlen hlen2 HCELL HN
      go_enter Try.func30, Try.ntmps30
      go_wp2_with fail
      rw [HW2.out]
      go_wp2
      go_ret
      exact ⟨rfl, HB2.out⟩
  · rw [hn, if_neg (fun hh => hlen hh.1)] at h
    obtain rfl := Option.some.inj h
    rw [hn] at q3 HW2 ⊢
    have hne : ¬ (l0_0.length : Int) = (n : Int) := by omega
    have bne : ((l0_0.length : Int) == (n : Int)) = false := beq_eq_false_iff_ne.2 hne
    clear h hn hlen HCELL HN
    go_enter Try.func30, Try.ntmps30
    go_wp2_with fail
    rw [HW2.out]
    go_wp2
    go_ret
    exact ⟨rfl, HB2.out⟩



end Go.Proofs.Ythgjieigpfcekaa.QG
