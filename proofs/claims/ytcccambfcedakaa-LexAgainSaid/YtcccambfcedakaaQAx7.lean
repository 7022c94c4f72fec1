-- Laid by this claim's own program (mprint.py in the repo).
import Derived.Test.YtcccambfcedakaaQAx0
import Derived.Test.YtcccambfcedakaaQAx5
import Derived.Test.YtcccambfcedakaaQAx6
namespace Go.Proofs.Ytcccambfcedakaa.QA
open Go.RowKit Go.Proofs.YtcccambfcedakaaW.PrintWords Go.Proofs.YtcccambfcedakaaW.PrintLast Go.Proofs.YtcccambfcedakaaW.PrintMore
attribute [local go_sem] max2_int min2_int max_two min_two max_three min_three max_four min_four   -- for this text's walks alone
set_option linter.unusedVariables false
set_option linter.unusedSimpArgs false

/-! ### oriellaw05_LexAgain: function 4 -/
def oriellaw05_LexAgain.l : Nat → ByteArray → List S26 → Nat → Option Bool
  | 0, _, _, _ => none
  | k + 1, s, ts, i => if i + 1 < ts.length then
      (if 0 ≤ (rd_T26 ts i).f1 ∧ (rd_T26 ts i).f1 ≤ (rd_T26 ts i).f2 ∧ (rd_T26 ts i).f2 ≤ (s.size : Int) then
        (lex_Scan.f k (s.extract (rd_T26 ts i).f1.toNat (rd_T26 ts i).f2.toNat)).bind fun m =>
          (if m.length = 2 ∧ (rd_T26 m 0).f0 = (rd_T26 ts i).f0 ∧ (rd_T26 m 0).f1 = 0 ∧ (rd_T26 m 0).f2 = (rd_T26 ts i).f2 - (rd_T26 ts i).f1 then oriellaw05_LexAgain.l k s ts (i + 1) else none)
      else none)
    else oriellaw05_alive.f k
def oriellaw05_LexAgain.f (k : Nat) (a0 : ByteArray) : Option (Bool) := if (a0.size : Int) > 500 then oriellaw05_alive.f k else (lex_Scan.f k a0).bind fun ts => (if 0 < ts.length ∧ ts.length < 1000000 then oriellaw05_LexAgain.l k a0 ts 0 else none)
theorem oriellaw05_LexAgain.mono_l : ∀ k, (∀ y0 y1 y2, LeO (oriellaw05_LexAgain.l k y0 y1 y2) (oriellaw05_LexAgain.l (k + 1) y0 y1 y2))
  | 0 => fun _ _ _ r h => by simp [oriellaw05_LexAgain.l] at h
  | k + 1 => by
    have ih0 := oriellaw05_LexAgain.mono_l k
    intro y0 y1 y2
    unfold oriellaw05_LexAgain.l
    repeat' first
      | (with_reducible exact ih0 _ _ _)
      | (with_reducible exact LeO.refl _)
      | (with_reducible exact LeO.none _)
      | exact lex_Scan.mono _ _
      | exact oriellaw05_alive.mono _
      | (with_reducible refine LeO.ite ?_ ?_)
      | (with_reducible refine LeO.bind ?_ (fun _ => ?_))
      | exact ih0 _ _ _
      | exact LeO.none _
      | refine LeO.ite ?_ ?_
      | refine LeO.bind ?_ (fun _ => ?_)
theorem oriellaw05_LexAgain.mono : ∀ a0 k, LeO (oriellaw05_LexAgain.f k a0) (oriellaw05_LexAgain.f (k + 1) a0) := by
  intro a0 k
  unfold oriellaw05_LexAgain.f
  exact LeO.ite (oriellaw05_alive.mono _) (LeO.bind (lex_Scan.mono _ _) (fun _ => LeO.ite (oriellaw05_LexAgain.mono_l _ _ _ _) (LeO.none _)))
set_option maxHeartbeats 4000000 in
set_option maxRecDepth 100000 in
theorem oriellaw05_LexAgain.calls (k : Nat) (a0 : ByteArray) (r : Bool) (w : World) (h : oriellaw05_LexAgain.f k a0 = some r) :
    Calls Try.prog 4 #[.string a0] w fun e w' => e = .returned (.bool r) ∧ Below w.heap.size w w' := by
  have hu26 := Try.underlying26
  unfold oriellaw05_LexAgain.f at h
  by_cases c2 : (a0.size : Int) > 500
  · rw [if_pos c2] at h
    have c2b0 : decide (500 < (a0.size : Int)) = true := decide_eq_true c2
    have c2b1 : decide (500 < a0.size) = true := decide_eq_true (by omega)
    clear c2
    have A3 := Aside0.mk h
    clear h
    go_enter Try.func4, Try.ntmps4
    go_wp2_with fail
    refine (oriellaw05_alive.calls k r _ A3.out).mono ?_
    rintro e w' ⟨rfl, hb⟩
    have HB := Aside0.mk hb
    clear hb
    go_wp2
    go_ret
    exact ⟨rfl, HB.out⟩
  · rw [if_neg c2] at h
    have c2b0 : decide (500 < (a0.size : Int)) = false := decide_eq_false c2
    have c2b1 : decide (500 < a0.size) = false := decide_eq_false (by omega)
    have HZ := Lib.hid (show a0.size ≤ 500 by omega)
    clear c2
    obtain ⟨ts, hS, h⟩ := Option.bind_eq_some_iff.mp h
    by_cases cl : 0 < ts.length ∧ ts.length < 1000000
    · rw [if_pos cl] at h
      have HS := Aside0.mk hS
      have HH := Aside0.mk h
      clear hS h
      obtain ⟨m, hm⟩ : ∃ m, ts.length = m + 1 := ⟨ts.length - 1, by omega⟩
      have hmb : m < 1000000 := by omega
      have HM := Lib.hid hm
      clear cl hm
      go_enter Try.func4, Try.ntmps4
      go_wp2_with fail
      refine (lex_Scan.calls k a0 ts _ HS.out).mono ?_
      rintro e w1 ⟨v1, rfl, ho, hb⟩
      obtain ⟨Ao, co, rfl⟩ := Kd.R_slice ho
      have hco := (Kd.R_reads' ho).2.1
      have HO := Aside0.mk ho
      have HB := Aside0.mk hb
      clear ho hb
      rw [HM.out] at hco ⊢
      go_wp2
      go_loopg [20] k (fun kq v20 wr => ∃ (i : Nat), v20 = .int .i64 i ∧ i ≤ m ∧ Aside0 (oriellaw05_LexAgain.l kq a0 ts i = some r) ∧ Aside0 (Kd.R k26 26 wr w.heap.size (fun _ => True) (.slice Ao ts.length co) ts) ∧ Aside0 (Below w.heap.size w wr) ∧ Aside0 (kq ≤ k))
      case atStart => exact ⟨0, rfl, Nat.zero_le _, HH, HO, HB, ⟨Nat.le_refl _⟩⟩
      case round =>
        clear HH HO HB HS
        obtain ⟨i, rfl, him, HA, HO, HB, HK⟩ := hrel
        cases gk with
        | zero => exact absurd HA.out (by simp [oriellaw05_LexAgain.l])
        | succ k1 =>
          have H := HA.out
          clear HA
          simp only [oriellaw05_LexAgain.l] at H
          by_cases hlt : i < m
          · have hm := HM.out
            rw [if_pos (by omega)] at H
            obtain ⟨ad, ead, hx0, hx1, hx2⟩ := at_T26 (Kd.R_reads' HO.out).2.2 (i : Int) (by omega) (by omega)
            rw [Int.toNat_natCast] at hx0 hx1 hx2
            clear hm
            generalize hx : rd_T26 ts (i : Int) = x at *
            obtain ⟨t0, t1, t2⟩ := x
            dsimp only at *
            clear hx
            by_cases hc : 0 ≤ t1 ∧ t1 ≤ t2 ∧ t2 ≤ (a0.size : Int)
            · rw [if_pos hc] at H
              obtain ⟨p1, p2, p3⟩ := hc
              obtain ⟨ms, hS2, H⟩ := Option.bind_eq_some_iff.mp H
              by_cases hq : ms.length = 2 ∧ (rd_T26 ms 0).f0 = t0 ∧ (rd_T26 ms 0).f1 = 0 ∧ (rd_T26 ms 0).f2 = t2 - t1
              · rw [if_pos hq] at H
                have HX := Aside0.mk H
                have HS2 := Aside0.mk hS2
                have HQ := Aside0.mk hq
                clear H hS2 hq
                cases ead
                go_wp2_with fail
                refine (lex_Scan.calls k1 _ ms _ HS2.out).mono ?_
                rintro e w2 ⟨v2, rfl, ho2, hb2⟩
                obtain ⟨A2, c2, rfl⟩ := Kd.R_slice ho2
                obtain ⟨q1, q2, q3, q4⟩ := HQ.out
                obtain ⟨ad2, e2, hy0, hy1, hy2⟩ := at_T26 (Kd.R_reads' ho2).2.2 0 (by omega) (by rw [q1]; omega)
                cases e2
                simp only [Int.reduceToNat, Nat.zero_mul, Go.Addr.add, ↓reduceIte] at hy0 hy1 hy2
                rw [q2] at hy0
                rw [q3] at hy1
                rw [q4] at hy2
                have z0 : w2.cell? ⟨wr.heap.size, 0, none⟩ = some (.int .i64 t0) := (hb2.cell (p := ⟨wr.heap.size, 0, none⟩) (by simp)).trans (by simp [World.cell?_alloc_at])
                have z1 : w2.cell? ⟨wr.heap.size, 1, none⟩ = some (.int .i64 t1) := (hb2.cell (p := ⟨wr.heap.size, 1, none⟩) (by simp)).trans (by simp [World.cell?_alloc_at])
                have z2 : w2.cell? ⟨wr.heap.size, 2, none⟩ = some (.int .i64 t2) := (hb2.cell (p := ⟨wr.heap.size, 2, none⟩) (by simp)).trans (by simp [World.cell?_alloc_at])
                have HO2 := Aside0.mk (Kd.R_below (Kd.R_alloc HO.out (.cells #[.int .i64 t0, .int .i64 t1, .int .i64 t2] 26)) hb2)
                have HB2 := Aside0.mk ((HB.out.alloc HB.out.size (.cells #[.int .i64 t0, .int .i64 t1, .int .i64 t2] 26)).trans (hb2.mono (by have := HB.out.size; simp; omega)))
                have wz : (t2 - t1 != wrap64 (t2 - t1)) = false := by
                  have := HZ.out
                  rw [bne_eq_false_iff_eq]
                  unfold wrap64
                  omega
                have HQ1 := Lib.hid q1
                clear q1 q2 q3 q4 ho2 hb2 HQ HO HB hx0 hx1 hx2
                rw [HQ1.out]
                go_wp2_with fail
                go_quiet (fail)
                go_wp2
                go_roundg k1
                case measure => omega
                case rel => exact ⟨i + 1, by go_num, by omega, HX, ⟨Kd.R_drewN HO2.out _⟩, ⟨pw_below_drewN HB2.out _⟩, ⟨by have := HK.out; omega⟩⟩
              · rw [if_neg hq] at H
                cases H
            · rw [if_neg hc] at H
              cases H
          · have hm := HM.out
            rw [if_neg (by omega)] at H
            have e : i = m := by omega
            subst e
            have A3 := Aside0.mk H
            clear H hm
            go_wp2_with fail
            refine (oriellaw05_alive.calls k1 r _ A3.out).mono ?_
            rintro e w' ⟨rfl, hb⟩
            have HB2 := Aside0.mk (HB.out.trans (hb.mono HB.out.size))
            clear hb HB HO
            go_wp2
            go_ret
            exact ⟨rfl, HB2.out⟩
    · rw [if_neg cl] at h
      cases h


/-- THE ONE PURE STATEMENT of oriellaw05_LexAgain: yours. -/
def oriellaw05_LexAgain.Pure : Prop := ∀ (a0 : ByteArray), a0.size ≤ 140737488351232 → ∃ k, oriellaw05_LexAgain.f k a0 = some true
theorem oriellaw05_LexAgain.walk (P : oriellaw05_LexAgain.Pure) (a0 : ByteArray) (w : World) (w0 : a0.size ≤ 140737488351232) :
    Calls Try.prog 4 #[.string a0] w fun e w' => e = .returned (.bool true) ∧ Below w.heap.size w w' := by
  obtain ⟨k, h⟩ := P a0 w0
  refine (oriellaw05_LexAgain.calls k a0 true w h).mono ?_
  rintro e w' ⟨rfl, hd⟩
  exact ⟨rfl, hd⟩

end Go.Proofs.Ytcccambfcedakaa.QA
