-- Laid by this claim's own program (mprint.py in the repo).
import Derived.Test.YtfmbfnjlennfoaaQNx0
import Derived.Test.YtfmbfnjlennfoaaQNx5
namespace Go.Proofs.Ytfmbfnjlennfoaa.QN
open Go.RowKit Go.Proofs.YtfmbfnjlennfoaaW.PrintWords Go.Proofs.YtfmbfnjlennfoaaW.PrintLast Go.Proofs.YtfmbfnjlennfoaaW.PrintMore
attribute [local go_sem] max2_int min2_int max_two min_two max_three min_three max_four min_four   -- for this text's walks alone
set_option linter.unusedVariables false
set_option linter.unusedSimpArgs false

/-! ### orielref11_Visible: function 20 -/
def orielref11_Visible.l0 : Nat → List (S33) → List (S33) → Int → Option ((List (S33)))
  | 0, _, _, _ => none
  | k + 1, x0, x3, x4 => if x4 < (x0.length : Int) then (if 0 ≤ x4 then ((orielref11_Find.f k x0 ((rd_T33 x0 x4).f0) ((rd_T33 x0 x4).f1)).bind fun t133 => (if t133 = x4 then (if x3.length < 1599289640401 then (orielref11_Visible.l0 k x0 (x3 ++ [(⟨(rd_T33 x0 x4).f0, (rd_T33 x0 x4).f1, (rd_T33 x0 x4).f2, (rd_T33 x0 x4).f3, (rd_T33 x0 x4).f4, (rd_T33 x0 x4).f5⟩ : S33)]) (wrap64 (x4 + 1))) else (none)) else (orielref11_Visible.l0 k x0 x3 (wrap64 (x4 + 1))))) else (none)) else (some x3)
def orielref11_Visible.f (k : Nat) (l0 : List (S33)) : Option ((List (S33))) := orielref11_Visible.l0 k l0 ([] : List (S33)) 0
theorem orielref11_Visible.mono_l : ∀ k, (∀ y0 y1 y2, LeO (orielref11_Visible.l0 k y0 y1 y2) (orielref11_Visible.l0 (k + 1) y0 y1 y2))
  | 0 => fun _ _ _ r h => by simp [orielref11_Visible.l0] at h
  | k + 1 => by
    have ih0 := orielref11_Visible.mono_l k
    · intro y0 y1 y2
      unfold orielref11_Visible.l0
      repeat' first
      | (with_reducible exact ih0 _ _ _)
      | (with_reducible exact orielref11_Find.mono _ _ _ _)
      | (with_reducible exact LeO.refl _)
      | (with_reducible exact LeO.none _)
      | (with_reducible refine LeO.ite ?_ ?_)
      | (with_reducible refine LeO.bind ?_ (fun _ => ?_))
      | exact ih0 _ _ _
      | exact orielref11_Find.mono _ _ _ _
      | exact LeO.none _
      | refine LeO.ite ?_ ?_
      | refine LeO.bind ?_ (fun _ => ?_)
theorem orielref11_Visible.mono : ∀ a0 k, LeO (orielref11_Visible.f k a0) (orielref11_Visible.f (k + 1) a0) := by
  intro a0 k
  have ih0 := orielref11_Visible.mono_l k
  unfold orielref11_Visible.f
  repeat' first
      | (with_reducible exact ih0 _ _ _)
      | (with_reducible exact orielref11_Find.mono _ _ _ _)
      | (with_reducible exact LeO.refl _)
      | (with_reducible exact LeO.none _)
      | (with_reducible refine LeO.ite ?_ ?_)
      | (with_reducible refine LeO.bind ?_ (fun _ => ?_))
      | exact ih0 _ _ _
      | exact orielref11_Find.mono _ _ _ _
      | exact LeO.none _
      | refine LeO.ite ?_ ?_
      | refine LeO.bind ?_ (fun _ => ?_)
set_option maxHeartbeats 8000000 in
set_option maxRecDepth 100000 in
theorem orielref11_Visible.calls (k : Nat) (P0_ : Nat → Prop) (A0 : Option Addr) (c0 : Nat) (l0 : List (S33)) (r : List (S33)) (w : World) (hs0 : Kd.V k33 33 w w.heap.size (fun k_ => P0_ k_) (.slice A0 l0.length c0) l0) (h : orielref11_Visible.f k l0 = some r) :
    Calls Try.prog 20 #[.slice A0 l0.length c0] w fun e w' => ∃ v0_ : Value, e = .returned (v0_) ∧ Kd.N k33 33 w' w.heap.size (fun k_ => (P0_ k_ ∨ w.heap.size ≤ k_)) v0_ r ∧ Below w.heap.size w w' := by
  have hu33 := Try.underlying33
  have HO0 := Aside0.mk (show Kd.V k33 33 w w.heap.size (fun k_ => (P0_ k_ ∨ w.heap.size ≤ k_)) (.slice A0 l0.length c0) l0 from Kd.V_mono hs0 (fun k_ hk => .inl hk))
  have HB := Aside0.mk (Below.refl w.heap.size w)
  have H : (orielref11_Visible.l0 k l0 ([] : List (S33)) 0) = some r := h
  clear h
  have H' := Aside0.mk H
  clear H
  go_enter Try.func20, Try.ntmps20
  go_wp2
  repeat (go_quiet (fail); try go_wp2)
  go_loopg [3, 4] k (fun kq v3 v4 w' => ∃ (x3_1 : List (S33)) (x4_1 : Int), v4 = .int .i64 x4_1 ∧ Aside0 (orielref11_Visible.l0 kq l0 x3_1 x4_1 = some r) ∧ Aside0 (kq ≤ k) ∧ Aside0 (Kd.V k33 33 w' w.heap.size (fun k_ => (P0_ k_ ∨ w.heap.size ≤ k_) ∧ some k_ ≠ (v3 : Value).ownBlock) (.slice A0 l0.length c0) l0) ∧ Aside0 (Kd.N k33 33 w' w.heap.size (fun k_ => (P0_ k_ ∨ w.heap.size ≤ k_)) v3 x3_1) ∧ Aside0 (Below w.heap.size w w'))
  case atStart => exact ⟨(([] : List (S33))), (0), (by first | rfl | (simp; done) | (simp [*]; done)), H', ⟨Nat.le_refl _⟩, ⟨by (with_reducible repeat (first | apply Kd.V_alloc | apply Kd.V_drewN | apply Kd.V_drew)); exact Kd.V_mono HO0.out (fun _ hk => ⟨hk, (by simp [Value.ownBlock])⟩)⟩, ⟨by first | exact Kd.R_nil _ _ _ _ _ | exact Kd.N_nil _ _ _ _ _ | exact Kd.V_nil _ _ _ _ _ | exact Kd.Q_nil _ _ _ _ _ | exact Kd.S_nil _ _ _ _ _⟩, ⟨by repeat (first | (with_reducible first | exact HB.out | apply below_alloc | apply pw_below_drewN | apply below_drew1) | exact HB.out)⟩⟩
  case round =>
    clear H'
    obtain ⟨x3_1, x4_1, rfl, HA, HK1, HO_0, HO_3, HB⟩ := hrel
    cases gk with
    | zero => exact absurd HA.out (by simp [orielref11_Visible.l0])
    | succ k1 =>
      have H := HA.out
      clear HA
      simp only [orielref11_Visible.l0] at H
      by_cases c2 : x4_1 < (l0.length : Int)
      · rw [if_pos c2] at H
        have c2b0 : decide (x4_1 < (l0.length : Int)) = true := decide_eq_true c2
        clear c2
        by_cases c3 : 0 ≤ x4_1
        · rw [if_pos c3] at H
          have c3b0 : decide (0 ≤ x4_1) = true := decide_eq_true c3
          clear c3
          replace H := Option.bind_eq_some_iff.mp H
          obtain ⟨t133, A40, H⟩ := H
          replace H : (if t133 = x4_1 then (if x3_1.length < 1599289640401 then (orielref11_Visible.l0 k1 l0 (x3_1 ++ [(⟨(rd_T33 l0 x4_1).f0, (rd_T33 l0 x4_1).f1, (rd_T33 l0 x4_1).f2, (rd_T33 l0 x4_1).f3, (rd_T33 l0 x4_1).f4, (rd_T33 l0 x4_1).f5⟩ : S33)]) (wrap64 (x4_1 + 1))) else (none)) else (orielref11_Visible.l0 k1 l0 x3_1 (wrap64 (x4_1 + 1)))) = some r := H
          have A4 := Aside0.mk A40
          clear A40
          by_cases c5 : t133 = x4_1
          · rw [if_pos c5] at H
            have c5b0 : (t133 == x4_1) = true := beq_iff_eq.mpr c5
            have c5b1 : (t133 != x4_1) = false := bne_eq_false_iff_eq.mpr c5
            clear c5
            by_cases c6 : x3_1.length < 1599289640401
            · rw [if_pos c6] at H
              have LMc6 := Aside0.mk c6
              clear c6
              obtain ⟨y135, hy135⟩ : ∃ y_ : List (S33), y_ = (x3_1 ++ [(⟨(rd_T33 l0 x4_1).f0, (rd_T33 l0 x4_1).f1, (rd_T33 l0 x4_1).f2, (rd_T33 l0 x4_1).f3, (rd_T33 l0 x4_1).f4, (rd_T33 l0 x4_1).f5⟩ : S33)]) := ⟨_, rfl⟩
              replace H : (orielref11_Visible.l0 k1 l0 y135 (wrap64 (x4_1 + 1))) = some r := by first | (rw [hy135]; with_reducible exact H) | (have H2_ := (Option.bind_some _ _).symm.trans H; rw [hy135]; with_reducible exact H2_) | (have H2_ := (Option.bind_some _ _).symm.trans H; with_reducible exact H2_) | with_reducible exact H | (rw [hy135]; exact H) | exact H
              have Ny135 := Aside0.mk hy135
              clear hy135
              have H' := Aside0.mk H
              clear H
              have p131 : 0 ≤ (x4_1 : Int) := of_decide_eq_true (by first | (with_reducible assumption) | assumption)
              have q131 : x4_1 < (l0.length : Int) := of_decide_eq_true (by first | (with_reducible assumption) | assumption)
              obtain ⟨ad131, A131_4, c131_4, A131_5, c131_5, e131, hx131_0, hx131_1, hx131_2, hx131_3, hx131_4, hx131_5, hl131_4, hi131_4, hl131_5, hi131_5⟩ := at_T33 (Kd.V_reads' HO_0.out).2.2 x4_1 p131 q131
              cases e131
              obtain ⟨ce131, hce131, hMe131, hcc131⟩ := Kd.V_get HO_0.out z33 x4_1 p131 (by first | exact q131 | exact of_decide_eq_true (by first | (with_reducible assumption) | assumption) | (have e_ := (Kd.V_reads' HO_0.out).1; omega))
              obtain ⟨ua131_4, uc131_4, ua131_5, uc131_5, rfl, ul131_4, ge131_4, ul131_5, ge131_5⟩ := k33_openF hMe131
              have hv131_4 := hcc131 4 _ rfl
              rw [add_field _ _ 4 (by omega)] at hv131_4
              replace hv131_4 := Option.some.inj (hv131_4.symm.trans hx131_4)
              injection hv131_4 with hva_ hvn_ hvc_
              rw [hva_] at ge131_4
              rw [hvc_] at ul131_4
              have HL131_4 := Aside0.mk (show Kd.V k33 33 _ w.heap.size _ _ ((rd_T33 l0 x4_1).f4) from Kd.V_mk ul131_4 ge131_4)
              clear hva_ hvn_ hvc_ ge131_4 ul131_4
              have hv131_5 := hcc131 5 _ rfl
              rw [add_field _ _ 5 (by omega)] at hv131_5
              replace hv131_5 := Option.some.inj (hv131_5.symm.trans hx131_5)
              injection hv131_5 with hva_ hvn_ hvc_
              rw [hva_] at ge131_5
              rw [hvc_] at ul131_5
              have HL131_5 := Aside0.mk (show Kd.V k33 33 _ w.heap.size _ _ ((rd_T33 l0 x4_1).f5) from Kd.V_mk ul131_5 ge131_5)
              clear hva_ hvn_ hvc_ ge131_5 ul131_5
              clear hcc131 hce131
              have HR131_4 := Aside0.mk hi131_4
              have HC131_4 := Aside0.mk hl131_4
              clear hi131_4 hl131_4
              have HR131_5 := Aside0.mk hi131_5
              have HC131_5 := Aside0.mk hl131_5
              clear hi131_5 hl131_5
              replace p131 := eq_true p131
              replace q131 := eq_true q131
              have p132 : 0 ≤ (x4_1 : Int) := of_decide_eq_true (by first | (with_reducible assumption) | assumption)
              have q132 : x4_1 < (l0.length : Int) := of_decide_eq_true (by first | (with_reducible assumption) | assumption)
              obtain ⟨ad132, A132_4, c132_4, A132_5, c132_5, e132, hx132_0, hx132_1, hx132_2, hx132_3, hx132_4, hx132_5, hl132_4, hi132_4, hl132_5, hi132_5⟩ := at_T33 (Kd.V_reads' HO_0.out).2.2 x4_1 p132 q132
              obtain rfl : ad131 = ad132 := (by injection e132)
              obtain ⟨ce132, hce132, hMe132, hcc132⟩ := Kd.V_get HO_0.out z33 x4_1 p132 (by first | exact q132 | exact of_decide_eq_true (by first | (with_reducible assumption) | assumption) | (have e_ := (Kd.V_reads' HO_0.out).1; omega))
              obtain ⟨ua132_4, uc132_4, ua132_5, uc132_5, rfl, ul132_4, ge132_4, ul132_5, ge132_5⟩ := k33_openF hMe132
              have hv132_4 := hcc132 4 _ rfl
              rw [add_field _ _ 4 (by omega)] at hv132_4
              replace hv132_4 := Option.some.inj (hv132_4.symm.trans hx132_4)
              injection hv132_4 with hva_ hvn_ hvc_
              rw [hva_] at ge132_4
              rw [hvc_] at ul132_4
              have HL132_4 := Aside0.mk (show Kd.V k33 33 _ w.heap.size _ _ ((rd_T33 l0 x4_1).f4) from Kd.V_mk ul132_4 ge132_4)
              clear hva_ hvn_ hvc_ ge132_4 ul132_4
              have hv132_5 := hcc132 5 _ rfl
              rw [add_field _ _ 5 (by omega)] at hv132_5
              replace hv132_5 := Option.some.inj (hv132_5.symm.trans hx132_5)
              injection hv132_5 with hva_ hvn_ hvc_
              rw [hva_] at ge132_5
              rw [hvc_] at ul132_5
              have HL132_5 := Aside0.mk (show Kd.V k33 33 _ w.heap.size _ _ ((rd_T33 l0 x4_1).f5) from Kd.V_mk ul132_5 ge132_5)
              clear hva_ hvn_ hvc_ ge132_5 ul132_5
              clear hcc132 hce132
              have HR132_4 := Aside0.mk hi132_4
              have HC132_4 := Aside0.mk hl132_4
              clear hi132_4 hl132_4
              have HR132_5 := Aside0.mk hi132_5
              have HC132_5 := Aside0.mk hl132_5
              clear hi132_5 hl132_5
              replace p132 := eq_true p132
              replace q132 := eq_true q132
              have ea_ := Option.some.inj (hx131_4.symm.trans hx132_4)
              injection ea_ with ea_ en_ ec_
              subst ea_
              subst ec_
              clear en_
              have ea_ := Option.some.inj (hx131_5.symm.trans hx132_5)
              injection ea_ with ea_ en_ ec_
              subst ea_
              subst ec_
              clear en_
              go_wp2_with (first | (go_at_call 21; (with_reducible refine (orielref11_Find.calls k1 _ _ l0 ((rd_T33 l0 x4_1).f0) ((rd_T33 l0 x4_1).f1) t133 _ ?side1 ?side2 A4.out).mono ?_); (case side1 => repeat (first | exact (Kd.V_reads' HO_0.out).2.2 | (with_reducible refine Kd.C_alloc ?_ _) | (with_reducible refine Kd.C_drewN ?_ _) | (with_reducible refine Kd.C_drew ?_))); (case side2 => exact (Kd.V_reads' HO_0.out).2.1); rintro e w' ⟨rfl, ⟨nd, rfl⟩⟩; (try first | exact ⟨rfl, _, World.drewN_drewN _ _ _⟩ | exact ⟨rfl, _, Eq.trans (World.drewN_drewN _ _ _) (congrArg (World.drewN _) (Nat.add_assoc _ _ _))⟩); have p134 : 0 ≤ (x4_1 : Int) := of_decide_eq_true (by first | (with_reducible assumption) | assumption); have q134 : x4_1 < (l0.length : Int) := of_decide_eq_true (by first | (with_reducible assumption) | assumption); obtain ⟨ad134, A134_4, c134_4, A134_5, c134_5, e134, hx134_0, hx134_1, hx134_2, hx134_3, hx134_4, hx134_5, hl134_4, hi134_4, hl134_5, hi134_5⟩ := at_T33 (Kd.V_reads' HO_0.out).2.2 x4_1 p134 q134; obtain rfl : ad131 = ad134 := (by injection e134); obtain ⟨ce134, hce134, hMe134, hcc134⟩ := Kd.V_get HO_0.out z33 x4_1 p134 (by first | exact q134 | exact of_decide_eq_true (by first | (with_reducible assumption) | assumption) | (have e_ := (Kd.V_reads' HO_0.out).1; omega)); obtain ⟨ua134_4, uc134_4, ua134_5, uc134_5, rfl, ul134_4, ge134_4, ul134_5, ge134_5⟩ := k33_openF hMe134; have hv134_4 := hcc134 4 _ rfl; rw [add_field _ _ 4 (by omega)] at hv134_4; replace hv134_4 := Option.some.inj (hv134_4.symm.trans hx134_4); injection hv134_4 with hva_ hvn_ hvc_; rw [hva_] at ge134_4; rw [hvc_] at ul134_4; have HL134_4 := Aside0.mk (show Kd.V k33 33 _ w.heap.size _ _ ((rd_T33 l0 x4_1).f4) from Kd.V_mk ul134_4 ge134_4); clear hva_ hvn_ hvc_ ge134_4 ul134_4; have hv134_5 := hcc134 5 _ rfl; rw [add_field _ _ 5 (by omega)] at hv134_5; replace hv134_5 := Option.some.inj (hv134_5.symm.trans hx134_5); injection hv134_5 with hva_ hvn_ hvc_; rw [hva_] at ge134_5; rw [hvc_] at ul134_5; have HL134_5 := Aside0.mk (show Kd.V k33 33 _ w.heap.size _ _ ((rd_T33 l0 x4_1).f5) from Kd.V_mk ul134_5 ge134_5); clear hva_ hvn_ hvc_ ge134_5 ul134_5; clear hcc134 hce134; have HR134_4 := Aside0.mk hi134_4; have HC134_4 := Aside0.mk hl134_4; clear hi134_4 hl134_4; have HR134_5 := Aside0.mk hi134_5; have HC134_5 := Aside0.mk hl134_5; clear hi134_5 hl134_5; replace p134 := eq_true p134; replace q134 := eq_true q134; have ea_ := Option.some.inj (hx131_4.symm.trans hx134_4); injection ea_ with ea_ en_ ec_; subst ea_; subst ec_; clear en_; have ea_ := Option.some.inj (hx131_5.symm.trans hx134_5); injection ea_ with ea_ en_ ec_; subst ea_; subst ec_; clear en_) | ((with_reducible refine gate_builtin (b := .append) (xs := #[.tmp 25, .tmp 30]) rfl ?_); at_builtin; refine Kd.N_append k33 (w0 := w) w.heap.size rfl (.tmp 25) (.tmp 30) 22 33 (.agg #[(.int .i64 0), (.string ⟨#[]⟩), (.int .i64 0), (.int .i64 0), (.slice none 0 0), (.slice none 0 0)]) 88 rfl Try.underlying22 info33 rfl (by decide) (by omega) u3 x3_1 (⟨(rd_T33 l0 x4_1).f0, (rd_T33 l0 x4_1).f1, (rd_T33 l0 x4_1).f2, (rd_T33 l0 x4_1).f3, (rd_T33 l0 x4_1).f4, (rd_T33 l0 x4_1).f5⟩ : S33) [.int .i64 ((rd_T33 l0 x4_1).f0), .string ((rd_T33 l0 x4_1).f1), .int .i64 ((rd_T33 l0 x4_1).f2), .int .i64 ((rd_T33 l0 x4_1).f3), .slice A131_4 ((rd_T33 l0 x4_1).f4).length c131_4, .slice A131_5 ((rd_T33 l0 x4_1).f5).length c131_5] (fun k_ => (P0_ k_ ∨ w.heap.size ≤ k_)) (fun k_ => ((fun k_ => (P0_ k_ ∨ w.heap.size ≤ k_))) k_ ∧ some k_ ≠ (u3 : Value).ownBlock) rfl rfl ?aP (fun _ hk => hk) ?aF ?aO ?aB ?aS ?aL ?_; (case aP => exact (k33_mkF _ _ (⟨(rd_T33 l0 x4_1).f0, (rd_T33 l0 x4_1).f1, (rd_T33 l0 x4_1).f2, (rd_T33 l0 x4_1).f3, (rd_T33 l0 x4_1).f4, (rd_T33 l0 x4_1).f5⟩ : S33) (Kd.V_reads' (Kd.V_mono (ok' := (fun k_ => ((fun k_ => (P0_ k_ ∨ w.heap.size ≤ k_))) k_ ∧ some k_ ≠ (u3 : Value).ownBlock)) (HL134_4.out) (fun k_ hk => ⟨hk.1, hk.2⟩))).2.1 (Kd.V_F (Kd.V_mono (ok' := (fun k_ => ((fun k_ => (P0_ k_ ∨ w.heap.size ≤ k_))) k_ ∧ some k_ ≠ (u3 : Value).ownBlock)) (HL134_4.out) (fun k_ hk => ⟨hk.1, hk.2⟩))) (Kd.V_reads' (Kd.V_mono (ok' := (fun k_ => ((fun k_ => (P0_ k_ ∨ w.heap.size ≤ k_))) k_ ∧ some k_ ≠ (u3 : Value).ownBlock)) (HL134_5.out) (fun k_ hk => ⟨hk.1, hk.2⟩))).2.1 (Kd.V_F (Kd.V_mono (ok' := (fun k_ => ((fun k_ => (P0_ k_ ∨ w.heap.size ≤ k_))) k_ ∧ some k_ ≠ (u3 : Value).ownBlock)) (HL134_5.out) (fun k_ hk => ⟨hk.1, hk.2⟩))))); (case aB => exact (by repeat (first | (with_reducible first | exact HB.out | apply below_alloc | apply pw_below_drewN | apply below_drew1) | exact HB.out))); (case aF => exact (fun k_ hk => (.inr (Nat.le_trans (below_size (by repeat (first | (with_reducible first | exact HB.out | apply below_alloc | apply pw_below_drewN | apply below_drew1) | exact HB.out))) hk)))); (case aO => exact (by (with_reducible repeat (first | apply Kd.N_alloc | apply Kd.N_drewN | apply Kd.N_drew)); exact HO_3.out)); (case aS => exact (below_size (by repeat (first | (with_reducible first | exact HB.out | apply below_alloc | apply pw_below_drewN | apply below_drew1) | exact HB.out)))); (case aL => have := LMc6.out; omega); intro v136 w7 ho hb hg hat; rw [← Ny135.out] at ho; have n0_ := Aside0.mk (Kd.V_afterv (ok := (fun k_ => (P0_ k_ ∨ w.heap.size ≤ k_))) (by (with_reducible repeat (first | apply Kd.V_alloc | apply Kd.V_drewN | apply Kd.V_drew)); exact HO_0.out) hg hat); have n1_ := Aside0.mk (Kd.V_afterv (ok := (fun k_ => (P0_ k_ ∨ w.heap.size ≤ k_))) (by (with_reducible repeat (first | apply Kd.V_alloc | apply Kd.V_drewN | apply Kd.V_drew)); exact HL131_4.out) hg hat); have n2_ := Aside0.mk (Kd.V_afterv (ok := (fun k_ => (P0_ k_ ∨ w.heap.size ≤ k_))) (by (with_reducible repeat (first | apply Kd.V_alloc | apply Kd.V_drewN | apply Kd.V_drew)); exact HL131_5.out) hg hat); have n3_ := Aside0.mk (Kd.V_afterv (ok := (fun k_ => (P0_ k_ ∨ w.heap.size ≤ k_))) (by (with_reducible repeat (first | apply Kd.V_alloc | apply Kd.V_drewN | apply Kd.V_drew)); exact HL132_4.out) hg hat); have n4_ := Aside0.mk (Kd.V_afterv (ok := (fun k_ => (P0_ k_ ∨ w.heap.size ≤ k_))) (by (with_reducible repeat (first | apply Kd.V_alloc | apply Kd.V_drewN | apply Kd.V_drew)); exact HL132_5.out) hg hat); have n5_ := Aside0.mk (Kd.V_afterv (ok := (fun k_ => (P0_ k_ ∨ w.heap.size ≤ k_))) (by (with_reducible repeat (first | apply Kd.V_alloc | apply Kd.V_drewN | apply Kd.V_drew)); exact HL134_4.out) hg hat); have n6_ := Aside0.mk (Kd.V_afterv (ok := (fun k_ => (P0_ k_ ∨ w.heap.size ≤ k_))) (by (with_reducible repeat (first | apply Kd.V_alloc | apply Kd.V_drewN | apply Kd.V_drew)); exact HL134_5.out) hg hat); have n7_ := Aside0.mk (hb); have n8_ := Aside0.mk (ho); clear HO_0; clear HL131_4; clear HL131_5; clear HL132_4; clear HL132_5; clear HL134_4; clear HL134_5; clear HB; clear HO_3; have HO_0 := n0_; have HL131_4 := n1_; have HL131_5 := n2_; have HL132_4 := n3_; have HL132_5 := n4_; have HL134_4 := n5_; have HL134_5 := n6_; have HB := n7_; have HO137 := n8_; clear n0_ n1_ n2_ n3_ n4_ n5_ n6_ n7_ n8_; clear ho hb hg hat))
              repeat (go_quiet (first | (go_at_call 21; (with_reducible refine (orielref11_Find.calls k1 _ _ l0 ((rd_T33 l0 x4_1).f0) ((rd_T33 l0 x4_1).f1) t133 _ ?side1 ?side2 A4.out).mono ?_); (case side1 => repeat (first | exact (Kd.V_reads' HO_0.out).2.2 | (with_reducible refine Kd.C_alloc ?_ _) | (with_reducible refine Kd.C_drewN ?_ _) | (with_reducible refine Kd.C_drew ?_))); (case side2 => exact (Kd.V_reads' HO_0.out).2.1); rintro e w' ⟨rfl, ⟨nd, rfl⟩⟩; (try first | exact ⟨rfl, _, World.drewN_drewN _ _ _⟩ | exact ⟨rfl, _, Eq.trans (World.drewN_drewN _ _ _) (congrArg (World.drewN _) (Nat.add_assoc _ _ _))⟩); have p134 : 0 ≤ (x4_1 : Int) := of_decide_eq_true (by first | (with_reducible assumption) | assumption); have q134 : x4_1 < (l0.length : Int) := of_decide_eq_true (by first | (with_reducible assumption) | assumption); obtain ⟨ad134, A134_4, c134_4, A134_5, c134_5, e134, hx134_0, hx134_1, hx134_2, hx134_3, hx134_4, hx134_5, hl134_4, hi134_4, hl134_5, hi134_5⟩ := at_T33 (Kd.V_reads' HO_0.out).2.2 x4_1 p134 q134; obtain rfl : ad131 = ad134 := (by injection e134); obtain ⟨ce134, hce134, hMe134, hcc134⟩ := Kd.V_get HO_0.out z33 x4_1 p134 (by first | exact q134 | exact of_decide_eq_true (by first | (with_reducible assumption) | assumption) | (have e_ := (Kd.V_reads' HO_0.out).1; omega)); obtain ⟨ua134_4, uc134_4, ua134_5, uc134_5, rfl, ul134_4, ge134_4, ul134_5, ge134_5⟩ := k33_openF hMe134; have hv134_4 := hcc134 4 _ rfl; rw [add_field _ _ 4 (by omega)] at hv134_4; replace hv134_4 := Option.some.inj (hv134_4.symm.trans hx134_4); injection hv134_4 with hva_ hvn_ hvc_; rw [hva_] at ge134_4; rw [hvc_] at ul134_4; have HL134_4 := Aside0.mk (show Kd.V k33 33 _ w.heap.size _ _ ((rd_T33 l0 x4_1).f4) from Kd.V_mk ul134_4 ge134_4); clear hva_ hvn_ hvc_ ge134_4 ul134_4; have hv134_5 := hcc134 5 _ rfl; rw [add_field _ _ 5 (by omega)] at hv134_5; replace hv134_5 := Option.some.inj (hv134_5.symm.trans hx134_5); injection hv134_5 with hva_ hvn_ hvc_; rw [hva_] at ge134_5; rw [hvc_] at ul134_5; have HL134_5 := Aside0.mk (show Kd.V k33 33 _ w.heap.size _ _ ((rd_T33 l0 x4_1).f5) from Kd.V_mk ul134_5 ge134_5); clear hva_ hvn_ hvc_ ge134_5 ul134_5; clear hcc134 hce134; have HR134_4 := Aside0.mk hi134_4; have HC134_4 := Aside0.mk hl134_4; clear hi134_4 hl134_4; have HR134_5 := Aside0.mk hi134_5; have HC134_5 := Aside0.mk hl134_5; clear hi134_5 hl134_5; replace p134 := eq_true p134; replace q134 := eq_true q134; have ea_ := Option.some.inj (hx131_4.symm.trans hx134_4); injection ea_ with ea_ en_ ec_; subst ea_; subst ec_; clear en_; have ea_ := Option.some.inj (hx131_5.symm.trans hx134_5); injection ea_ with ea_ en_ ec_; subst ea_; subst ec_; clear en_) | ((with_reducible refine gate_builtin (b := .append) (xs := #[.tmp 25, .tmp 30]) rfl ?_); at_builtin; refine Kd.N_append k33 (w0 := w) w.heap.size rfl (.tmp 25) (.tmp 30) 22 33 (.agg #[(.int .i64 0), (.string ⟨#[]⟩), (.int .i64 0), (.int .i64 0), (.slice none 0 0), (.slice none 0 0)]) 88 rfl Try.underlying22 info33 rfl (by decide) (by omega) u3 x3_1 (⟨(rd_T33 l0 x4_1).f0, (rd_T33 l0 x4_1).f1, (rd_T33 l0 x4_1).f2, (rd_T33 l0 x4_1).f3, (rd_T33 l0 x4_1).f4, (rd_T33 l0 x4_1).f5⟩ : S33) [.int .i64 ((rd_T33 l0 x4_1).f0), .string ((rd_T33 l0 x4_1).f1), .int .i64 ((rd_T33 l0 x4_1).f2), .int .i64 ((rd_T33 l0 x4_1).f3), .slice A131_4 ((rd_T33 l0 x4_1).f4).length c131_4, .slice A131_5 ((rd_T33 l0 x4_1).f5).length c131_5] (fun k_ => (P0_ k_ ∨ w.heap.size ≤ k_)) (fun k_ => ((fun k_ => (P0_ k_ ∨ w.heap.size ≤ k_))) k_ ∧ some k_ ≠ (u3 : Value).ownBlock) rfl rfl ?aP (fun _ hk => hk) ?aF ?aO ?aB ?aS ?aL ?_; (case aP => exact (k33_mkF _ _ (⟨(rd_T33 l0 x4_1).f0, (rd_T33 l0 x4_1).f1, (rd_T33 l0 x4_1).f2, (rd_T33 l0 x4_1).f3, (rd_T33 l0 x4_1).f4, (rd_T33 l0 x4_1).f5⟩ : S33) (Kd.V_reads' (Kd.V_mono (ok' := (fun k_ => ((fun k_ => (P0_ k_ ∨ w.heap.size ≤ k_))) k_ ∧ some k_ ≠ (u3 : Value).ownBlock)) (HL134_4.out) (fun k_ hk => ⟨hk.1, hk.2⟩))).2.1 (Kd.V_F (Kd.V_mono (ok' := (fun k_ => ((fun k_ => (P0_ k_ ∨ w.heap.size ≤ k_))) k_ ∧ some k_ ≠ (u3 : Value).ownBlock)) (HL134_4.out) (fun k_ hk => ⟨hk.1, hk.2⟩))) (Kd.V_reads' (Kd.V_mono (ok' := (fun k_ => ((fun k_ => (P0_ k_ ∨ w.heap.size ≤ k_))) k_ ∧ some k_ ≠ (u3 : Value).ownBlock)) (HL134_5.out) (fun k_ hk => ⟨hk.1, hk.2⟩))).2.1 (Kd.V_F (Kd.V_mono (ok' := (fun k_ => ((fun k_ => (P0_ k_ ∨ w.heap.size ≤ k_))) k_ ∧ some k_ ≠ (u3 : Value).ownBlock)) (HL134_5.out) (fun k_ hk => ⟨hk.1, hk.2⟩))))); (case aB => exact (by repeat (first | (with_reducible first | exact HB.out | apply below_alloc | apply pw_below_drewN | apply below_drew1) | exact HB.out))); (case aF => exact (fun k_ hk => (.inr (Nat.le_trans (below_size (by repeat (first | (with_reducible first | exact HB.out | apply below_alloc | apply pw_below_drewN | apply below_drew1) | exact HB.out))) hk)))); (case aO => exact (by (with_reducible repeat (first | apply Kd.N_alloc | apply Kd.N_drewN | apply Kd.N_drew)); exact HO_3.out)); (case aS => exact (below_size (by repeat (first | (with_reducible first | exact HB.out | apply below_alloc | apply pw_below_drewN | apply below_drew1) | exact HB.out)))); (case aL => have := LMc6.out; omega); intro v136 w7 ho hb hg hat; rw [← Ny135.out] at ho; have n0_ := Aside0.mk (Kd.V_afterv (ok := (fun k_ => (P0_ k_ ∨ w.heap.size ≤ k_))) (by (with_reducible repeat (first | apply Kd.V_alloc | apply Kd.V_drewN | apply Kd.V_drew)); exact HO_0.out) hg hat); have n1_ := Aside0.mk (Kd.V_afterv (ok := (fun k_ => (P0_ k_ ∨ w.heap.size ≤ k_))) (by (with_reducible repeat (first | apply Kd.V_alloc | apply Kd.V_drewN | apply Kd.V_drew)); exact HL131_4.out) hg hat); have n2_ := Aside0.mk (Kd.V_afterv (ok := (fun k_ => (P0_ k_ ∨ w.heap.size ≤ k_))) (by (with_reducible repeat (first | apply Kd.V_alloc | apply Kd.V_drewN | apply Kd.V_drew)); exact HL131_5.out) hg hat); have n3_ := Aside0.mk (Kd.V_afterv (ok := (fun k_ => (P0_ k_ ∨ w.heap.size ≤ k_))) (by (with_reducible repeat (first | apply Kd.V_alloc | apply Kd.V_drewN | apply Kd.V_drew)); exact HL132_4.out) hg hat); have n4_ := Aside0.mk (Kd.V_afterv (ok := (fun k_ => (P0_ k_ ∨ w.heap.size ≤ k_))) (by (with_reducible repeat (first | apply Kd.V_alloc | apply Kd.V_drewN | apply Kd.V_drew)); exact HL132_5.out) hg hat); have n5_ := Aside0.mk (Kd.V_afterv (ok := (fun k_ => (P0_ k_ ∨ w.heap.size ≤ k_))) (by (with_reducible repeat (first | apply Kd.V_alloc | apply Kd.V_drewN | apply Kd.V_drew)); exact HL134_4.out) hg hat); have n6_ := Aside0.mk (Kd.V_afterv (ok := (fun k_ => (P0_ k_ ∨ w.heap.size ≤ k_))) (by (with_reducible repeat (first | apply Kd.V_alloc | apply Kd.V_drewN | apply Kd.V_drew)); exact HL134_5.out) hg hat); have n7_ := Aside0.mk (hb); have n8_ := Aside0.mk (ho); clear HO_0; clear HL131_4; clear HL131_5; clear HL132_4; clear HL132_5; clear HL134_4; clear HL134_5; clear HB; clear HO_3; have HO_0 := n0_; have HL131_4 := n1_; have HL131_5 := n2_; have HL132_4 := n3_; have HL132_5 := n4_; have HL134_4 := n5_; have HL134_5 := n6_; have HB := n7_; have HO137 := n8_; clear n0_ n1_ n2_ n3_ n4_ n5_ n6_ n7_ n8_; clear ho hb hg hat)); try go_wp2_with (first | (go_at_call 21; (with_reducible refine (orielref11_Find.calls k1 _ _ l0 ((rd_T33 l0 x4_1).f0) ((rd_T33 l0 x4_1).f1) t133 _ ?side1 ?side2 A4.out).mono ?_); (case side1 => repeat (first | exact (Kd.V_reads' HO_0.out).2.2 | (with_reducible refine Kd.C_alloc ?_ _) | (with_reducible refine Kd.C_drewN ?_ _) | (with_reducible refine Kd.C_drew ?_))); (case side2 => exact (Kd.V_reads' HO_0.out).2.1); rintro e w' ⟨rfl, ⟨nd, rfl⟩⟩; (try first | exact ⟨rfl, _, World.drewN_drewN _ _ _⟩ | exact ⟨rfl, _, Eq.trans (World.drewN_drewN _ _ _) (congrArg (World.drewN _) (Nat.add_assoc _ _ _))⟩); have p134 : 0 ≤ (x4_1 : Int) := of_decide_eq_true (by first | (with_reducible assumption) | assumption); have q134 : x4_1 < (l0.length : Int) := of_decide_eq_true (by first | (with_reducible assumption) | assumption); obtain ⟨ad134, A134_4, c134_4, A134_5, c134_5, e134, hx134_0, hx134_1, hx134_2, hx134_3, hx134_4, hx134_5, hl134_4, hi134_4, hl134_5, hi134_5⟩ := at_T33 (Kd.V_reads' HO_0.out).2.2 x4_1 p134 q134; obtain rfl : ad131 = ad134 := (by injection e134); obtain ⟨ce134, hce134, hMe134, hcc134⟩ := Kd.V_get HO_0.out z33 x4_1 p134 (by first | exact q134 | exact of_decide_eq_true (by first | (with_reducible assumption) | assumption) | (have e_ := (Kd.V_reads' HO_0.out).1; omega)); obtain ⟨ua134_4, uc134_4, ua134_5, uc134_5, rfl, ul134_4, ge134_4, ul134_5, ge134_5⟩ := k33_openF hMe134; have hv134_4 := hcc134 4 _ rfl; rw [add_field _ _ 4 (by omega)] at hv134_4; replace hv134_4 := Option.some.inj (hv134_4.symm.trans hx134_4); injection hv134_4 with hva_ hvn_ hvc_; rw [hva_] at ge134_4; rw [hvc_] at ul134_4; have HL134_4 := Aside0.mk (show Kd.V k33 33 _ w.heap.size _ _ ((rd_T33 l0 x4_1).f4) from Kd.V_mk ul134_4 ge134_4); clear hva_ hvn_ hvc_ ge134_4 ul134_4; have hv134_5 := hcc134 5 _ rfl; rw [add_field _ _ 5 (by omega)] at hv134_5; replace hv134_5 := Option.some.inj (hv134_5.symm.trans hx134_5); injection hv134_5 with hva_ hvn_ hvc_; rw [hva_] at ge134_5; rw [hvc_] at ul134_5; have HL134_5 := Aside0.mk (show Kd.V k33 33 _ w.heap.size _ _ ((rd_T33 l0 x4_1).f5) from Kd.V_mk ul134_5 ge134_5); clear hva_ hvn_ hvc_ ge134_5 ul134_5; clear hcc134 hce134; have HR134_4 := Aside0.mk hi134_4; have HC134_4 := Aside0.mk hl134_4; clear hi134_4 hl134_4; have HR134_5 := Aside0.mk hi134_5; have HC134_5 := Aside0.mk hl134_5; clear hi134_5 hl134_5; replace p134 := eq_true p134; replace q134 := eq_true q134; have ea_ := Option.some.inj (hx131_4.symm.trans hx134_4); injection ea_ with ea_ en_ ec_; subst ea_; subst ec_; clear en_; have ea_ := Option.some.inj (hx131_5.symm.trans hx134_5); injection ea_ with ea_ en_ ec_; subst ea_; subst ec_; clear en_) | ((with_reducible refine gate_builtin (b := .append) (xs := #[.tmp 25, .tmp 30]) rfl ?_); at_builtin; refine Kd.N_append k33 (w0 := w) w.heap.size rfl (.tmp 25) (.tmp 30) 22 33 (.agg #[(.int .i64 0), (.string ⟨#[]⟩), (.int .i64 0), (.int .i64 0), (.slice none 0 0), (.slice none 0 0)]) 88 rfl Try.underlying22 info33 rfl (by decide) (by omega) u3 x3_1 (⟨(rd_T33 l0 x4_1).f0, (rd_T33 l0 x4_1).f1, (rd_T33 l0 x4_1).f2, (rd_T33 l0 x4_1).f3, (rd_T33 l0 x4_1).f4, (rd_T33 l0 x4_1).f5⟩ : S33) [.int .i64 ((rd_T33 l0 x4_1).f0), .string ((rd_T33 l0 x4_1).f1), .int .i64 ((rd_T33 l0 x4_1).f2), .int .i64 ((rd_T33 l0 x4_1).f3), .slice A131_4 ((rd_T33 l0 x4_1).f4).length c131_4, .slice A131_5 ((rd_T33 l0 x4_1).f5).length c131_5] (fun k_ => (P0_ k_ ∨ w.heap.size ≤ k_)) (fun k_ => ((fun k_ => (P0_ k_ ∨ w.heap.size ≤ k_))) k_ ∧ some k_ ≠ (u3 : Value).ownBlock) rfl rfl ?aP (fun _ hk => hk) ?aF ?aO ?aB ?aS ?aL ?_; (case aP => exact (k33_mkF _ _ (⟨(rd_T33 l0 x4_1).f0, (rd_T33 l0 x4_1).f1, (rd_T33 l0 x4_1).f2, (rd_T33 l0 x4_1).f3, (rd_T33 l0 x4_1).f4, (rd_T33 l0 x4_1).f5⟩ : S33) (Kd.V_reads' (Kd.V_mono (ok' := (fun k_ => ((fun k_ => (P0_ k_ ∨ w.heap.size ≤ k_))) k_ ∧ some k_ ≠ (u3 : Value).ownBlock)) (HL134_4.out) (fun k_ hk => ⟨hk.1, hk.2⟩))).2.1 (Kd.V_F (Kd.V_mono (ok' := (fun k_ => ((fun k_ => (P0_ k_ ∨ w.heap.size ≤ k_))) k_ ∧ some k_ ≠ (u3 : Value).ownBlock)) (HL134_4.out) (fun k_ hk => ⟨hk.1, hk.2⟩))) (Kd.V_reads' (Kd.V_mono (ok' := (fun k_ => ((fun k_ => (P0_ k_ ∨ w.heap.size ≤ k_))) k_ ∧ some k_ ≠ (u3 : Value).ownBlock)) (HL134_5.out) (fun k_ hk => ⟨hk.1, hk.2⟩))).2.1 (Kd.V_F (Kd.V_mono (ok' := (fun k_ => ((fun k_ => (P0_ k_ ∨ w.heap.size ≤ k_))) k_ ∧ some k_ ≠ (u3 : Value).ownBlock)) (HL134_5.out) (fun k_ hk => ⟨hk.1, hk.2⟩))))); (case aB => exact (by repeat (first | (with_reducible first | exact HB.out | apply below_alloc | apply pw_below_drewN | apply below_drew1) | exact HB.out))); (case aF => exact (fun k_ hk => (.inr (Nat.le_trans (below_size (by repeat (first | (with_reducible first | exact HB.out | apply below_alloc | apply pw_below_drewN | apply below_drew1) | exact HB.out))) hk)))); (case aO => exact (by (with_reducible repeat (first | apply Kd.N_alloc | apply Kd.N_drewN | apply Kd.N_drew)); exact HO_3.out)); (case aS => exact (below_size (by repeat (first | (with_reducible first | exact HB.out | apply below_alloc | apply pw_below_drewN | apply below_drew1) | exact HB.out)))); (case aL => have := LMc6.out; omega); intro v136 w7 ho hb hg hat; rw [← Ny135.out] at ho; have n0_ := Aside0.mk (Kd.V_afterv (ok := (fun k_ => (P0_ k_ ∨ w.heap.size ≤ k_))) (by (with_reducible repeat (first | apply Kd.V_alloc | apply Kd.V_drewN | apply Kd.V_drew)); exact HO_0.out) hg hat); have n1_ := Aside0.mk (Kd.V_afterv (ok := (fun k_ => (P0_ k_ ∨ w.heap.size ≤ k_))) (by (with_reducible repeat (first | apply Kd.V_alloc | apply Kd.V_drewN | apply Kd.V_drew)); exact HL131_4.out) hg hat); have n2_ := Aside0.mk (Kd.V_afterv (ok := (fun k_ => (P0_ k_ ∨ w.heap.size ≤ k_))) (by (with_reducible repeat (first | apply Kd.V_alloc | apply Kd.V_drewN | apply Kd.V_drew)); exact HL131_5.out) hg hat); have n3_ := Aside0.mk (Kd.V_afterv (ok := (fun k_ => (P0_ k_ ∨ w.heap.size ≤ k_))) (by (with_reducible repeat (first | apply Kd.V_alloc | apply Kd.V_drewN | apply Kd.V_drew)); exact HL132_4.out) hg hat); have n4_ := Aside0.mk (Kd.V_afterv (ok := (fun k_ => (P0_ k_ ∨ w.heap.size ≤ k_))) (by (with_reducible repeat (first | apply Kd.V_alloc | apply Kd.V_drewN | apply Kd.V_drew)); exact HL132_5.out) hg hat); have n5_ := Aside0.mk (Kd.V_afterv (ok := (fun k_ => (P0_ k_ ∨ w.heap.size ≤ k_))) (by (with_reducible repeat (first | apply Kd.V_alloc | apply Kd.V_drewN | apply Kd.V_drew)); exact HL134_4.out) hg hat); have n6_ := Aside0.mk (Kd.V_afterv (ok := (fun k_ => (P0_ k_ ∨ w.heap.size ≤ k_))) (by (with_reducible repeat (first | apply Kd.V_alloc | apply Kd.V_drewN | apply Kd.V_drew)); exact HL134_5.out) hg hat); have n7_ := Aside0.mk (hb); have n8_ := Aside0.mk (ho); clear HO_0; clear HL131_4; clear HL131_5; clear HL132_4; clear HL132_5; clear HL134_4; clear HL134_5; clear HB; clear HO_3; have HO_0 := n0_; have HL131_4 := n1_; have HL131_5 := n2_; have HL132_4 := n3_; have HL132_5 := n4_; have HL134_4 := n5_; have HL134_5 := n6_; have HB := n7_; have HO137 := n8_; clear n0_ n1_ n2_ n3_ n4_ n5_ n6_ n7_ n8_; clear ho hb hg hat)))
              go_roundg k1
              case measure => have := HK1.out; omega
              case rel => exact ⟨(y135), (wrap64 (x4_1 + 1)), (by first | rfl | (simp; done) | (simp [*]; done)), H', ⟨by have := HK1.out; omega⟩, ⟨by (with_reducible repeat (first | apply Kd.V_alloc | apply Kd.V_drewN | apply Kd.V_drew)); exact HO_0.out⟩, ⟨by (with_reducible repeat (first | apply Kd.N_alloc | apply Kd.N_drewN | apply Kd.N_drew)); exact HO137.out⟩, ⟨by repeat (first | (with_reducible first | exact HB.out | apply below_alloc | apply pw_below_drewN | apply below_drew1) | exact HB.out)⟩⟩
            · rw [if_neg c6] at H
              exact absurd H (by simp)
          · rw [if_neg c5] at H
            have c5b0 : (t133 == x4_1) = false := beq_eq_false_iff_ne.mpr c5
            have c5b1 : (t133 != x4_1) = true := bne_iff_ne.mpr c5
            have H' := Aside0.mk H
            clear H
            have p131 : 0 ≤ (x4_1 : Int) := of_decide_eq_true (by first | (with_reducible assumption) | assumption)
            have q131 : x4_1 < (l0.length : Int) := of_decide_eq_true (by first | (with_reducible assumption) | assumption)
            obtain ⟨ad131, A131_4, c131_4, A131_5, c131_5, e131, hx131_0, hx131_1, hx131_2, hx131_3, hx131_4, hx131_5, hl131_4, hi131_4, hl131_5, hi131_5⟩ := at_T33 (Kd.V_reads' HO_0.out).2.2 x4_1 p131 q131
            cases e131
            obtain ⟨ce131, hce131, hMe131, hcc131⟩ := Kd.V_get HO_0.out z33 x4_1 p131 (by first | exact q131 | exact of_decide_eq_true (by first | (with_reducible assumption) | assumption) | (have e_ := (Kd.V_reads' HO_0.out).1; omega))
            obtain ⟨ua131_4, uc131_4, ua131_5, uc131_5, rfl, ul131_4, ge131_4, ul131_5, ge131_5⟩ := k33_openF hMe131
            have hv131_4 := hcc131 4 _ rfl
            rw [add_field _ _ 4 (by omega)] at hv131_4
            replace hv131_4 := Option.some.inj (hv131_4.symm.trans hx131_4)
            injection hv131_4 with hva_ hvn_ hvc_
            rw [hva_] at ge131_4
            rw [hvc_] at ul131_4
            have HL131_4 := Aside0.mk (show Kd.V k33 33 _ w.heap.size _ _ ((rd_T33 l0 x4_1).f4) from Kd.V_mk ul131_4 ge131_4)
            clear hva_ hvn_ hvc_ ge131_4 ul131_4
            have hv131_5 := hcc131 5 _ rfl
            rw [add_field _ _ 5 (by omega)] at hv131_5
            replace hv131_5 := Option.some.inj (hv131_5.symm.trans hx131_5)
            injection hv131_5 with hva_ hvn_ hvc_
            rw [hva_] at ge131_5
            rw [hvc_] at ul131_5
            have HL131_5 := Aside0.mk (show Kd.V k33 33 _ w.heap.size _ _ ((rd_T33 l0 x4_1).f5) from Kd.V_mk ul131_5 ge131_5)
            clear hva_ hvn_ hvc_ ge131_5 ul131_5
            clear hcc131 hce131
            have HR131_4 := Aside0.mk hi131_4
            have HC131_4 := Aside0.mk hl131_4
            clear hi131_4 hl131_4
            have HR131_5 := Aside0.mk hi131_5
            have HC131_5 := Aside0.mk hl131_5
            clear hi131_5 hl131_5
            replace p131 := eq_true p131
            replace q131 := eq_true q131
            have p132 : 0 ≤ (x4_1 : Int) := of_decide_eq_true (by first | (with_reducible assumption) | assumption)
            have q132 : x4_1 < (l0.length : Int) := of_decide_eq_true (by first | (with_reducible assumption) | assumption)
            obtain ⟨ad132, A132_4, c132_4, A132_5, c132_5, e132, hx132_0, hx132_1, hx132_2, hx132_3, hx132_4, hx132_5, hl132_4, hi132_4, hl132_5, hi132_5⟩ := at_T33 (Kd.V_reads' HO_0.out).2.2 x4_1 p132 q132
            obtain rfl : ad131 = ad132 := (by injection e132)
            obtain ⟨ce132, hce132, hMe132, hcc132⟩ := Kd.V_get HO_0.out z33 x4_1 p132 (by first | exact q132 | exact of_decide_eq_true (by first | (with_reducible assumption) | assumption) | (have e_ := (Kd.V_reads' HO_0.out).1; omega))
            obtain ⟨ua132_4, uc132_4, ua132_5, uc132_5, rfl, ul132_4, ge132_4, ul132_5, ge132_5⟩ := k33_openF hMe132
            have hv132_4 := hcc132 4 _ rfl
            rw [add_field _ _ 4 (by omega)] at hv132_4
            replace hv132_4 := Option.some.inj (hv132_4.symm.trans hx132_4)
            injection hv132_4 with hva_ hvn_ hvc_
            rw [hva_] at ge132_4
            rw [hvc_] at ul132_4
            have HL132_4 := Aside0.mk (show Kd.V k33 33 _ w.heap.size _ _ ((rd_T33 l0 x4_1).f4) from Kd.V_mk ul132_4 ge132_4)
            clear hva_ hvn_ hvc_ ge132_4 ul132_4
            have hv132_5 := hcc132 5 _ rfl
            rw [add_field _ _ 5 (by omega)] at hv132_5
            replace hv132_5 := Option.some.inj (hv132_5.symm.trans hx132_5)
            injection hv132_5 with hva_ hvn_ hvc_
            rw [hva_] at ge132_5
            rw [hvc_] at ul132_5
            have HL132_5 := Aside0.mk (show Kd.V k33 33 _ w.heap.size _ _ ((rd_T33 l0 x4_1).f5) from Kd.V_mk ul132_5 ge132_5)
            clear hva_ hvn_ hvc_ ge132_5 ul132_5
            clear hcc132 hce132
            have HR132_4 := Aside0.mk hi132_4
            have HC132_4 := Aside0.mk hl132_4
            clear hi132_4 hl132_4
            have HR132_5 := Aside0.mk hi132_5
            have HC132_5 := Aside0.mk hl132_5
            clear hi132_5 hl132_5
            replace p132 := eq_true p132
            replace q132 := eq_true q132
            have ea_ := Option.some.inj (hx131_4.symm.trans hx132_4)
            injection ea_ with ea_ en_ ec_
            subst ea_
            subst ec_
            clear en_
            have ea_ := Option.some.inj (hx131_5.symm.trans hx132_5)
            injection ea_ with ea_ en_ ec_
            subst ea_
            subst ec_
            clear en_
            go_wp2_with (first | (go_at_call 21; (with_reducible refine (orielref11_Find.calls k1 _ _ l0 ((rd_T33 l0 x4_1).f0) ((rd_T33 l0 x4_1).f1) t133 _ ?side1 ?side2 A4.out).mono ?_); (case side1 => repeat (first | exact (Kd.V_reads' HO_0.out).2.2 | (with_reducible refine Kd.C_alloc ?_ _) | (with_reducible refine Kd.C_drewN ?_ _) | (with_reducible refine Kd.C_drew ?_))); (case side2 => exact (Kd.V_reads' HO_0.out).2.1); rintro e w' ⟨rfl, ⟨nd, rfl⟩⟩; (try first | exact ⟨rfl, _, World.drewN_drewN _ _ _⟩ | exact ⟨rfl, _, Eq.trans (World.drewN_drewN _ _ _) (congrArg (World.drewN _) (Nat.add_assoc _ _ _))⟩)))
            repeat (go_quiet (first | (go_at_call 21; (with_reducible refine (orielref11_Find.calls k1 _ _ l0 ((rd_T33 l0 x4_1).f0) ((rd_T33 l0 x4_1).f1) t133 _ ?side1 ?side2 A4.out).mono ?_); (case side1 => repeat (first | exact (Kd.V_reads' HO_0.out).2.2 | (with_reducible refine Kd.C_alloc ?_ _) | (with_reducible refine Kd.C_drewN ?_ _) | (with_reducible refine Kd.C_drew ?_))); (case side2 => exact (Kd.V_reads' HO_0.out).2.1); rintro e w' ⟨rfl, ⟨nd, rfl⟩⟩; (try first | exact ⟨rfl, _, World.drewN_drewN _ _ _⟩ | exact ⟨rfl, _, Eq.trans (World.drewN_drewN _ _ _) (congrArg (World.drewN _) (Nat.add_assoc _ _ _))⟩))); try go_wp2_with (first | (go_at_call 21; (with_reducible refine (orielref11_Find.calls k1 _ _ l0 ((rd_T33 l0 x4_1).f0) ((rd_T33 l0 x4_1).f1) t133 _ ?side1 ?side2 A4.out).mono ?_); (case side1 => repeat (first | exact (Kd.V_reads' HO_0.out).2.2 | (with_reducible refine Kd.C_alloc ?_ _) | (with_reducible refine Kd.C_drewN ?_ _) | (with_reducible refine Kd.C_drew ?_))); (case side2 => exact (Kd.V_reads' HO_0.out).2.1); rintro e w' ⟨rfl, ⟨nd, rfl⟩⟩; (try first | exact ⟨rfl, _, World.drewN_drewN _ _ _⟩ | exact ⟨rfl, _, Eq.trans (World.drewN_drewN _ _ _) (congrArg (World.drewN _) (Nat.add_assoc _ _ _))⟩))))
            go_roundg k1
            case measure => have := HK1.out; omega
            case rel => exact ⟨(x3_1), (wrap64 (x4_1 + 1)), (by first | rfl | (simp; done) | (simp [*]; done)), H', ⟨by have := HK1.out; omega⟩, ⟨by (with_reducible repeat (first | apply Kd.V_alloc | apply Kd.V_drewN | apply Kd.V_drew)); exact HO_0.out⟩, ⟨by (with_reducible repeat (first | apply Kd.N_alloc | apply Kd.N_drewN | apply Kd.N_drew)); exact HO_3.out⟩, ⟨by repeat (first | (with_reducible first | exact HB.out | apply below_alloc | apply pw_below_drewN | apply below_drew1) | exact HB.out)⟩⟩
        · rw [if_neg c3] at H
          exact absurd H (by simp)
      · rw [if_neg c2] at H
        have c2b0 : decide (x4_1 < (l0.length : Int)) = false := decide_eq_false c2
        clear c2
        obtain rfl := Option.some.inj H
        go_wp2
        repeat (go_quiet (fail); try go_wp2)
        go_ret
        exact ⟨_, by first | rfl | (simp [errW_none, errW_some] <;> rfl) | (simp [*, errW_none, errW_some] <;> rfl), by (with_reducible repeat (first | apply Kd.N_alloc | apply Kd.N_drewN | apply Kd.N_drew)); exact HO_3.out, by repeat (first | (with_reducible first | exact HB.out | apply below_alloc | apply pw_below_drewN | apply below_drew1) | exact HB.out)⟩

end Go.Proofs.Ytfmbfnjlennfoaa.QN
