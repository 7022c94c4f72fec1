/- The law WhyPaths' own function: walked by hand; what its callees tell makes each test come out. -/
import Derived.Test.YthgjieigpfcekaaWyAlive
import Derived.Test.YthgjieigpfcekaaWyRoots
import Derived.Test.YthgjieigpfcekaaQWx1
import Derived.Test.YthgjieigpfcekaaQWx1
namespace Go.Proofs.Ythgjieigpfcekaa.QW
open Go.RowKit Go.Proofs.YthgjieigpfcekaaW.PrintWords Go.Proofs.YthgjieigpfcekaaW.PrintLast Go.Proofs.YthgjieigpfcekaaW.PrintMore Go.Proofs.Ythgjieigpfcekaa.Gr
attribute [local go_sem] max2_int min2_int max_two min_two max_three min_three max_four min_four   -- for this text's walks alone
set_option linter.unusedVariables false
set_option linter.unusedSimpArgs false
def oriellaw32_WhyPaths.f (k : Nat) (E : List Int) (L : List PP) (V : List Int) (a b : Int) : Option Bool := if E.all okI = true ∧ okL L = true ∧ oriellaw32_alive.f k = some true then some true else none
theorem pathV_len (E : List Int) (L : List PP) (a b : Int) (hL : L.length ≤ 1000) : (pathV E L a b).1.length ≤ 1001 := by
  unfold pathV
  split
  · rename_i h
    rcases farZ_cases L (rd E a) (rd E b) with ⟨n, hn, e⟩ | ⟨hn, e⟩
    · rw [e, Int.toNat_natCast]
      dsimp only
      rw [pathZ_len]
      have := isD_le hn
      omega
    · rw [e] at h
      omega
  · simp
/-- Two equal rows. -/
theorem ints_same (l : List Int) (hl : l.length ≤ 1000000) : ∀ (A : Option Addr) (c : Nat) (A' : Option Addr) (c' : Nat) (W : World), Kd.C (Kd.int .i64) W A l.length l → l.length ≤ c → Kd.C (Kd.int .i64) W A' l.length l → l.length ≤ c' →
    Calls Try.prog 19 #[.slice A l.length c, .slice A' l.length c'] W fun e w' => e = .returned (.bool true) ∧ Below W.heap.size W w' := by
  obtain ⟨K, hK⟩ := Ev.rounds (ints_ev l l (by omega))
  rw [decide_eq_true rfl] at hK
  exact fun A c A' c' W h1 h2 h3 h4 => (oriellaw01_Ints.calls K A c l A' c' l true W h1 h2 h3 h4 hK).mono fun e w' ⟨he, hd⟩ => ⟨he, hd.below⟩
set_option maxHeartbeats 8000000 in
set_option maxRecDepth 100000 in
theorem oriellaw32_WhyPaths.calls (k : Nat) (A0_0 : Option Addr) (c0_0 : Nat) (l0_0 : List Int) (A0_1 : Option Addr) (c0_1 : Nat) (l0_1 : List S34) (A0_2 : Option Addr) (c0_2 : Nat) (l0_2 : List Int) (a b : Int) (r : Bool) (w : World)
    (hr0_0 : Kd.C (Kd.int .i64) w A0_0 l0_0.length l0_0) (hc0_0 : l0_0.length ≤ c0_0) (hr0_1 : Kd.C k34 w A0_1 l0_1.length l0_1) (hc0_1 : l0_1.length ≤ c0_1) (hr0_2 : Kd.C (Kd.int .i64) w A0_2 l0_2.length l0_2) (hc0_2 : l0_2.length ≤ c0_2) (h : oriellaw32_WhyPaths.f k l0_0 l0_1 l0_2 a b = some r) :
    Calls Try.prog 11 #[.agg #[.slice A0_0 l0_0.length c0_0, .slice A0_1 l0_1.length c0_1, .slice A0_2 l0_2.length c0_2], .int .i64 a, .int .i64 b] w fun e w' => e = .returned (.bool r) ∧ Below w.heap.size w w' := by
  have hu51 := Try.underlying51
  have hu24 := Try.underlying24
  unfold oriellaw32_WhyPaths.f at h
  by_cases hall : l0_0.all okI = true ∧ okL l0_1 = true ∧ oriellaw32_alive.f k = some true
  · rw [if_pos hall] at h
    obtain rfl := Option.some.inj h
    clear h
    obtain ⟨hokE, hokL, hal⟩ := hall
    have HAL := Aside0.mk (fun W => oriellaw32_alive.calls k true W hal)
    clear hal
    obtain ⟨fw, hfw⟩ : ∃ fw, oriellaw32_few.f l0_0 l0_1 l0_2 = some fw := by
      unfold oriellaw32_few.f
      split <;> exact ⟨_, rfl⟩
    have hfw2 : fw = true → l0_0.length ≤ 20 ∧ l0_1.length ≤ 14 := by
      intro e
      subst e
      unfold oriellaw32_few.f at hfw
      split at hfw
      · have := of_decide_eq_true (Option.some.inj hfw)
        omega
      · cases hfw
    have HFW := Aside0.mk (fun (W : World) (hb : Below w.heap.size w W) => oriellaw32_few.calls A0_0 c0_0 l0_0 A0_1 c0_1 l0_1 A0_2 c0_2 l0_2 fw W (Kd.C_below hr0_0 hb) hc0_0 (Kd.C_below hr0_1 hb) hc0_1 (Kd.C_below hr0_2 hb) hc0_2 hfw)
    clear hfw
    cases fw with
    | false =>
      clear hfw2
      generalize Value.slice A0_2 l0_2.length c0_2 = s2 at *
      obtain ⟨nE, hnE⟩ : ∃ nE, l0_0.length = nE := ⟨_, rfl⟩
      obtain ⟨nL, hnL⟩ : ∃ nL, l0_1.length = nL := ⟨_, rfl⟩
      rw [hnE, hnL] at HFW
      rw [hnE, hnL]
      clear hnE hnL hr0_0 hr0_1 hr0_2 hc0_0 hc0_1 hc0_2 hokE hokL
      have HB0 := Aside0.mk (below_alloc (Below.refl w.heap.size w) (.cells #[.slice A0_0 nE c0_0, .slice A0_1 nL c0_1, s2] 51))
      have HX := Aside0.mk (HFW.out _ HB0.out)
      go_enter Try.func11, Try.ntmps11
      go_wp2_with fail
      refine HX.out.mono ?_
      rintro e w1 ⟨rfl, hb⟩
      have HB := Aside0.mk (below_step HB0.out hb)
      clear hb HX HB0 HFW
      have HX := Aside0.mk (HAL.out w1)
      go_wp2_with fail
      refine HX.out.mono ?_
      rintro e w2 ⟨rfl, hb⟩
      have HB2 := Aside0.mk (below_step HB.out hb)
      clear hb HX
      go_wp2
      go_ret
      exact ⟨rfl, HB2.out⟩
    | true =>
      obtain ⟨h20, h14⟩ := hfw2 rfl
      clear hfw2
      have hL1 : l0_1.length ≤ 1000 := by omega
      have hL6 : l0_1.length ≤ 1000000 := by omega
      have hE6 : l0_0.length ≤ 1000000 := by omega
      obtain ⟨K1, hK1⟩ := Ev.rounds (pathD_ev l0_0 l0_1 l0_2 hE6 hL1 a b)
      obtain ⟨K2, hK2⟩ := Ev.rounds (nearD_ev l0_0 l0_1 l0_2 a hE6 hL6)
      obtain ⟨rr, er1, er2, hrl⟩ := roots_one l0_0 l0_1 l0_2 hE6 hL1 hokE hokL
      obtain ⟨K3, hK3⟩ := Ev.rounds er1
      obtain ⟨K4, hK4⟩ := Ev.rounds er2
      clear er1 er2
      have HI1 := ints_same (pathV l0_0 l0_1 a b).1 (by have := pathV_len l0_0 l0_1 a b hL1; omega)
      have HI2 := ints_same (nearL l0_1 a) (by have := near_len l0_1 a; omega)
      have HI3 := ints_same rr (by omega)
      have hpl := pathV_len l0_0 l0_1 a b hL1
      have HPA := Aside0.mk (fun (W : World) (hb : Below w.heap.size w W) => why_Path.calls 2002 A0_0 c0_0 l0_0 A0_1 c0_1 l0_1 A0_2 c0_2 l0_2 a b (pathV l0_0 l0_1 a b).1 (pathV l0_0 l0_1 a b).2 W (Kd.C_below hr0_0 hb) hc0_0 (Kd.C_below hr0_1 hb) hc0_1 (Kd.C_below hr0_2 hb) hc0_2 (path_f l0_0 l0_1 l0_2 a b hokE hokL hL1))
      have HPD := Aside0.mk (fun (W : World) (hb : Below w.heap.size w W) => orielref32_Path.calls K1 A0_0 c0_0 l0_0 A0_1 c0_1 l0_1 A0_2 c0_2 l0_2 a b (pathV l0_0 l0_1 a b).1 (pathV l0_0 l0_1 a b).2 W (Kd.C_below hr0_0 hb) hc0_0 (Kd.C_below hr0_1 hb) hc0_1 (Kd.C_below hr0_2 hb) hc0_2 hK1)
      have HFR := Aside0.mk (fun (W : World) (hb : Below w.heap.size w W) => why_Far.calls 2002 A0_0 c0_0 l0_0 A0_1 c0_1 l0_1 A0_2 c0_2 l0_2 a b _ _ W (Kd.C_below hr0_0 hb) hc0_0 (Kd.C_below hr0_1 hb) hc0_1 (Kd.C_below hr0_2 hb) hc0_2 (far_f l0_0 l0_1 l0_2 a b hokE hokL hL1))
      have HNR := Aside0.mk (fun (W : World) (hb : Below w.heap.size w W) => near_any A0_0 c0_0 l0_0 A0_1 c0_1 l0_1 A0_2 c0_2 l0_2 a W (Kd.C_below hr0_0 hb) hc0_0 (Kd.C_below hr0_1 hb) hc0_1 (Kd.C_below hr0_2 hb) hc0_2 hL6)
      have HND := Aside0.mk (fun (W : World) (hb : Below w.heap.size w W) => orielref32_Near.calls K2 A0_0 c0_0 l0_0 A0_1 c0_1 l0_1 A0_2 c0_2 l0_2 a _ W (Kd.C_below hr0_0 hb) hc0_0 (Kd.C_below hr0_1 hb) hc0_1 (Kd.C_below hr0_2 hb) hc0_2 hK2)
      have HRR := Aside0.mk (fun (W : World) (hb : Below w.heap.size w W) => why_Roots.calls K3 A0_0 c0_0 l0_0 A0_1 c0_1 l0_1 A0_2 c0_2 l0_2 rr W (Kd.C_below hr0_0 hb) hc0_0 (Kd.C_below hr0_1 hb) hc0_1 (Kd.C_below hr0_2 hb) hc0_2 hK3)
      have HRD := Aside0.mk (fun (W : World) (hb : Below w.heap.size w W) => orielref32_Roots.calls K4 A0_0 c0_0 l0_0 A0_1 c0_1 l0_1 A0_2 c0_2 l0_2 rr W (Kd.C_below hr0_0 hb) hc0_0 (Kd.C_below hr0_1 hb) hc0_1 (Kd.C_below hr0_2 hb) hc0_2 hK4)
      clear hK1 hK2 hK3 hK4 hokE hokL hr0_0 hr0_1 hr0_2 hc0_1 hc0_2 hc0_0 hrl
      obtain ⟨nE, hnE⟩ : ∃ nE, l0_0.length = nE := ⟨_, rfl⟩
      obtain ⟨nL, hnL⟩ : ∃ nL, l0_1.length = nL := ⟨_, rfl⟩
      generalize Value.slice A0_2 l0_2.length c0_2 = s2 at *
      rw [hnE] at HFW HPA HPD HFR HNR HND HRR HRD ⊢
      rw [hnL] at HFW HPA HPD HFR HNR HND HRR HRD ⊢
      clear hnE hnL h20 h14 hL1 hL6 hE6
      obtain ⟨PV, hPV⟩ : ∃ PV, pathV l0_0 l0_1 a b = PV := ⟨_, rfl⟩
      obtain ⟨NV, hNV⟩ : ∃ NV, nearL l0_1 a = NV := ⟨_, rfl⟩
      rw [hPV] at HPA HPD HFR HI1 hpl
      rw [hNV] at HNR HND HI2
      clear hPV hNV
      obtain ⟨l, is⟩ := PV
      dsimp only at HPA HPD HFR HI1 hpl
      obtain ⟨nl, hnl⟩ : ∃ nl, l.length = nl := ⟨_, rfl⟩
      obtain ⟨fr, hfr⟩ : ∃ fr : Int, max ((l.length : Int) - 1) 0 = fr := ⟨_, rfl⟩
      rw [hfr] at HFR
      rw [hnl] at hfr hpl HI1
      have HI1_ := Aside0.mk HI1
      have HI2_ := Aside0.mk HI2
      have HI3_ := Aside0.mk HI3
      clear HI1 HI2 HI3
      have HI1 := HI1_
      have HI2 := HI2_
      have HI3 := HI3_
      clear HI1_ HI2_ HI3_
      have HFRE := Lib.hid hfr
      have HNLE := Lib.hid hnl
      have HPL := Lib.hid hpl
      clear hfr hnl hpl
      have hblk : (w.alloc (.cells #[.slice A0_0 nE c0_0, .slice A0_1 nL c0_1, s2] 51)).heap[w.heap.size]? = some (.cells #[.slice A0_0 nE c0_0, .slice A0_1 nL c0_1, s2] 51 (0, 0)) := blk_new w _
      have HB0 := Aside0.mk (below_alloc (Below.refl w.heap.size w) (.cells #[.slice A0_0 nE c0_0, .slice A0_1 nL c0_1, s2] 51))
      have HG0 := Aside0.mk hblk
      clear hblk
      have HX := Aside0.mk (HFW.out _ HB0.out)
      go_enter Try.func11, Try.ntmps11
      go_wp2_with fail
      refine HX.out.mono ?_
      rintro e w1 ⟨rfl, hb⟩
      clear HX HFW
      have HG := HG0
      have HB := HB0
      clear HG0 HB0
      have q0 := True.intro
      have q1 := True.intro
      have q2 := True.intro
      have HG_ := Aside0.mk ((hb.block _ (blk_lt HG.out)).trans HG.out)
      have HB_ := Aside0.mk (below_step HB.out hb)
      clear q0 q1 q2 HG HB  hb
      have HG := HG_
      have HB := HB_
      clear HG_ HB_ 
      have q0 : w1.cell? ⟨w.heap.size, 0, none⟩ = some (.slice A0_0 nE c0_0) := (blk_cell HG.out 0).trans rfl
      have q1 : w1.cell? ⟨w.heap.size, 1, none⟩ = some (.slice A0_1 nL c0_1) := (blk_cell HG.out 1).trans rfl
      have q2 : w1.cell? ⟨w.heap.size, 2, none⟩ = some s2 := (blk_cell HG.out 2).trans rfl
      have HX := Aside0.mk (HPA.out w1 HB.out)
      go_wp2_with fail
      refine HX.out.mono ?_
      rintro e w2 ⟨v10, rfl, ho, hb⟩
      obtain ⟨A10, c10, rfl⟩ := Kd.R_slice ho
      obtain ⟨-, hc10, hC10⟩ := Kd.R_reads' ho
      have HCL := Aside0.mk hC10
      clear ho hC10 HX HPA
      have HG_ := Aside0.mk ((hb.block _ (blk_lt HG.out)).trans HG.out)
      have HB_ := Aside0.mk (below_step HB.out hb)
      clear q0 q1 q2 HG HB  hb
      have HG := HG_
      have HB := HB_
      clear HG_ HB_ 
      have q0 : w2.cell? ⟨w.heap.size, 0, none⟩ = some (.slice A0_0 nE c0_0) := (blk_cell HG.out 0).trans rfl
      have q1 : w2.cell? ⟨w.heap.size, 1, none⟩ = some (.slice A0_1 nL c0_1) := (blk_cell HG.out 1).trans rfl
      have q2 : w2.cell? ⟨w.heap.size, 2, none⟩ = some s2 := (blk_cell HG.out 2).trans rfl
      have HX := Aside0.mk (HPD.out w2 HB.out)
      go_wp2_with fail
      refine HX.out.mono ?_
      rintro e w3 ⟨v11, rfl, ho, hb⟩
      obtain ⟨A11, c11, rfl⟩ := Kd.R_slice ho
      obtain ⟨-, hc11, hC11⟩ := Kd.R_reads' ho
      have HCM := Aside0.mk hC11
      clear ho hC11 HX HPD
      have HG_ := Aside0.mk ((hb.block _ (blk_lt HG.out)).trans HG.out)
      have HB_ := Aside0.mk (below_step HB.out hb)
      have HCL_ := Aside0.mk (Kd.C_below HCL.out hb)
      clear q0 q1 q2 HG HB HCL hb
      have HG := HG_
      have HB := HB_
      have HCL := HCL_
      clear HG_ HB_ HCL_
      have q0 : w3.cell? ⟨w.heap.size, 0, none⟩ = some (.slice A0_0 nE c0_0) := (blk_cell HG.out 0).trans rfl
      have q1 : w3.cell? ⟨w.heap.size, 1, none⟩ = some (.slice A0_1 nL c0_1) := (blk_cell HG.out 1).trans rfl
      have q2 : w3.cell? ⟨w.heap.size, 2, none⟩ = some s2 := (blk_cell HG.out 2).trans rfl
      have HX := Aside0.mk (HFR.out w3 HB.out)
      go_wp2_with fail
      refine HX.out.mono ?_
      rintro e w4 ⟨rfl, hb⟩
      clear HX HFR
      have HG_ := Aside0.mk ((hb.block _ (blk_lt HG.out)).trans HG.out)
      have HB_ := Aside0.mk (below_step HB.out hb)
      have HCL_ := Aside0.mk (Kd.C_below HCL.out hb)
      have HCM_ := Aside0.mk (Kd.C_below HCM.out hb)
      clear q0 q1 q2 HG HB HCL HCM hb
      have HG := HG_
      have HB := HB_
      have HCL := HCL_
      have HCM := HCM_
      clear HG_ HB_ HCL_ HCM_
      have q0 : w4.cell? ⟨w.heap.size, 0, none⟩ = some (.slice A0_0 nE c0_0) := (blk_cell HG.out 0).trans rfl
      have q1 : w4.cell? ⟨w.heap.size, 1, none⟩ = some (.slice A0_1 nL c0_1) := (blk_cell HG.out 1).trans rfl
      have q2 : w4.cell? ⟨w.heap.size, 2, none⟩ = some s2 := (blk_cell HG.out 2).trans rfl
      rw [HNLE.out] at HCL HCM hc10 hc11
      have hlw : l.length = nl := HNLE.out
      rw [hlw]
      clear hlw
      obtain ⟨zz, hzz⟩ : ∃ zz : Int, IntKind.i64.wrap ((nl : Int) - 1) = zz := ⟨_, rfl⟩
      have hz1 : zz = (nl : Int) - 1 := by rw [← hzz]; exact IntWalk.i64_in _ (by have := HPL.out; omega)
      have hzf : (if zz < 0 then 0 else zz) = fr := by rw [← HFRE.out, hz1]; split <;> omega
      have bff : (fr == fr) = true := beq_self_eq_true _
      have bis : (is == is) = true := beq_self_eq_true _
      clear hz1
      have HBW := Aside0.mk (below_drew (Below.refl w4.heap.size w4))
      have HKEEP := Aside0.mk (fun (W : World) (hb : Below w4.heap.size w4 W) => (show (W.cell? ⟨w.heap.size, 0, none⟩ = some (.slice A0_0 nE c0_0) ∧ W.cell? ⟨w.heap.size, 1, none⟩ = some (.slice A0_1 nL c0_1) ∧ W.cell? ⟨w.heap.size, 2, none⟩ = some s2) from ⟨pw_cell_below hb q0, pw_cell_below hb q1, pw_cell_below hb q2⟩))
      go_wp2_with fail
      refine wp_region_held_drew (S := (fun w' => Below w4.heap.size w4 w' ∧ (w'.cell? ⟨w.heap.size, 0, none⟩ = some (.slice A0_0 nE c0_0) ∧ w'.cell? ⟨w.heap.size, 1, none⟩ = some (.slice A0_1 nL c0_1) ∧ w'.cell? ⟨w.heap.size, 2, none⟩ = some s2))) (by kernel_rfl) ⟨HBW.out, HKEEP.out _ HBW.out⟩ (fun hHeld => ?_)
      refine wpAnyH_take (i := 0) (oi := ?o0) (v := ?v0) ?hi0 (by kernel_rfl) (by kernel_rfl) (by kernel_rfl) ?hQ0 ?hy0 (by assumption) ?rest0
      case hi0 => simp only [List.getElem?_toArray, List.getElem?_cons_succ, List.getElem?_cons_zero] <;> rfl
      case hQ0 => exact fun _ _ _ h => h
      case hy0 => exact Or.inl ⟨by kernel_rfl, by intro w hSw; go_simp; first | done | with_reducible rfl⟩
      try simp only [Act.put, List.setIfInBounds_toArray, List.set_cons_zero, List.set_cons_succ]
      refine wpAnyH_take (i := 1) (oi := ?o1) (v := ?v1) ?hi1 (by kernel_rfl) (by kernel_rfl) (by kernel_rfl) ?hQ1 ?hy1 (by assumption) ?rest1
      case hi1 => simp only [List.getElem?_toArray, List.getElem?_cons_succ, List.getElem?_cons_zero] <;> rfl
      case hQ1 => exact fun _ _ _ h => h
      case hy1 => exact Or.inl ⟨by kernel_rfl, by intro w hSw; go_simp; first | done | with_reducible rfl⟩
      try simp only [Act.put, List.setIfInBounds_toArray, List.set_cons_zero, List.set_cons_succ]
      refine wpAnyH_ready (rs := [2]) (by kernel_rfl) (by simp) (AllReadyH.cons (o := ?o2) ?hi2 (fun K hK => ?step2) AllReadyH.nil)
      case hi2 => simp only [List.getElem?_toArray, List.getElem?_cons_succ, List.getElem?_cons_zero] <;> rfl
      go_simp
      (go_at_call 19; with_reducible refine (HI1.out A10 c10 A11 c11 _ (Kd.C_below HCL.out HBW.out) hc10 (Kd.C_below HCM.out HBW.out) hc11).mono ?_; rintro e w9 ⟨rfl, hb9⟩; have HBW_ := Aside0.mk (below_step HBW.out hb9); clear HBW; have HBW := HBW_; clear HBW_; clear hb9)
      go_wp2_with fail
      refine hK.out _ _ ?hS2 (fun hHeld => ?rest2)
      case hS2 => with_reducible exact ⟨HBW.out, HKEEP.out _ HBW.out⟩
      clear hK K
      try simp only [Act.put, List.setIfInBounds_toArray, List.set_cons_zero, List.set_cons_succ]
      refine wpAnyH_take (i := 3) (oi := ?o3) (v := ?v3) ?hi3 (by kernel_rfl) (by kernel_rfl) (by kernel_rfl) ?hQ3 ?hy3 (by assumption) ?rest3
      case hi3 => simp only [List.getElem?_toArray, List.getElem?_cons_succ, List.getElem?_cons_zero] <;> rfl
      case hQ3 => exact fun _ _ _ h => h
      case hy3 => exact Or.inl ⟨by kernel_rfl, by intro w hSw; go_simp; first | done | with_reducible rfl⟩
      try simp only [Act.put, List.setIfInBounds_toArray, List.set_cons_zero, List.set_cons_succ]
      refine wpAnyH_take (i := 4) (oi := ?o4) (v := ?v4) ?hi4 (by kernel_rfl) (by kernel_rfl) (by kernel_rfl) ?hQ4 ?hy4 (by assumption) ?rest4
      case hi4 => simp only [List.getElem?_toArray, List.getElem?_cons_succ, List.getElem?_cons_zero] <;> rfl
      case hQ4 => exact fun _ _ _ h => h
      case hy4 => exact Or.inl ⟨by kernel_rfl, by intro w hSw; go_simp; first | done | with_reducible rfl⟩
      try simp only [Act.put, List.setIfInBounds_toArray, List.set_cons_zero, List.set_cons_succ]
      refine wpAnyH_take (i := 5) (oi := ?o5) (v := ?v5) ?hi5 (by kernel_rfl) (by kernel_rfl) (by kernel_rfl) ?hQ5 ?hy5 (by assumption) ?rest5
      case hi5 => simp only [List.getElem?_toArray, List.getElem?_cons_succ, List.getElem?_cons_zero] <;> rfl
      case hQ5 => exact fun _ _ _ h => h
      case hy5 => exact Or.inl ⟨by kernel_rfl, by intro w hSw; go_simp; first | done | with_reducible rfl⟩
      try simp only [Act.put, List.setIfInBounds_toArray, List.set_cons_zero, List.set_cons_succ]
      refine wpAnyH_take (i := 6) (oi := ?o6) (v := ?v6) ?hi6 (by kernel_rfl) (by kernel_rfl) (by kernel_rfl) ?hQ6 ?hy6 (by assumption) ?rest6
      case hi6 => simp only [List.getElem?_toArray, List.getElem?_cons_succ, List.getElem?_cons_zero] <;> rfl
      case hQ6 => exact fun _ _ _ h => h
      case hy6 => exact Or.inl ⟨by kernel_rfl, by intro w hSw; go_simp; first | done | with_reducible rfl⟩
      try simp only [Act.put, List.setIfInBounds_toArray, List.set_cons_zero, List.set_cons_succ]
      refine wpAnyH_take (i := 7) (oi := ?o7) (v := ?v7) ?hi7 (by kernel_rfl) (by kernel_rfl) (by kernel_rfl) ?hQ7 ?hy7 (by assumption) ?rest7
      case hi7 => simp only [List.getElem?_toArray, List.getElem?_cons_succ, List.getElem?_cons_zero] <;> rfl
      case hQ7 => exact fun _ _ _ h => h
      case hy7 => exact Or.inl ⟨by kernel_rfl, by intro w hSw; go_simp; first | done | with_reducible rfl⟩
      try simp only [Act.put, List.setIfInBounds_toArray, List.set_cons_zero, List.set_cons_succ]
      refine wpAnyH_take (i := 8) (oi := ?o8) (v := ?v8) ?hi8 (by kernel_rfl) (by kernel_rfl) (by kernel_rfl) ?hQ8 ?hy8 (by assumption) ?rest8
      case hi8 => simp only [List.getElem?_toArray, List.getElem?_cons_succ, List.getElem?_cons_zero] <;> rfl
      case hQ8 => exact fun _ _ _ h => h
      case hy8 => exact Or.inl ⟨by kernel_rfl, by intro w hSw; go_simp; first | done | with_reducible rfl⟩
      try simp only [Act.put, List.setIfInBounds_toArray, List.set_cons_zero, List.set_cons_succ]
      refine wpAnyH_take (i := 9) (oi := ?o9) (v := ?v9) ?hi9 (by kernel_rfl) (by kernel_rfl) (by kernel_rfl) ?hQ9 ?hy9 (by assumption) ?rest9
      case hi9 => simp only [List.getElem?_toArray, List.getElem?_cons_succ, List.getElem?_cons_zero] <;> rfl
      case hQ9 => exact fun _ _ _ h => h
      case hy9 => exact Or.inl ⟨by kernel_rfl, by intro w hSw; go_simp; first | done | with_reducible rfl⟩
      try simp only [Act.put, List.setIfInBounds_toArray, List.set_cons_zero, List.set_cons_succ]
      refine wpAnyH_take (i := 10) (oi := ?o10) (v := ?v10) ?hi10 (by kernel_rfl) (by kernel_rfl) (by kernel_rfl) ?hQ10 ?hy10 (by assumption) ?rest10
      case hi10 => simp only [List.getElem?_toArray, List.getElem?_cons_succ, List.getElem?_cons_zero] <;> rfl
      case hQ10 => exact fun _ _ _ h => h
      case hy10 => exact Or.inl ⟨by kernel_rfl, by intro w hSw; go_simp; first | done | with_reducible rfl⟩
      try simp only [Act.put, List.setIfInBounds_toArray, List.set_cons_zero, List.set_cons_succ]
      refine wpAnyH_take (i := 11) (oi := ?o11) (v := ?v11) ?hi11 (by kernel_rfl) (by kernel_rfl) (by kernel_rfl) ?hQ11 ?hy11 (by assumption) ?rest11
      case hi11 => simp only [List.getElem?_toArray, List.getElem?_cons_succ, List.getElem?_cons_zero] <;> rfl
      case hQ11 => exact fun _ _ _ h => h
      case hy11 => exact Or.inl ⟨by kernel_rfl, by intro w hSw; go_simp; first | done | with_reducible rfl⟩
      try simp only [Act.put, List.setIfInBounds_toArray, List.set_cons_zero, List.set_cons_succ]
      refine wpAnyH_take (i := 12) (oi := ?o12) (v := ?v12) ?hi12 (by kernel_rfl) (by kernel_rfl) (by kernel_rfl) ?hQ12 ?hy12 (by assumption) ?rest12
      case hi12 => simp only [List.getElem?_toArray, List.getElem?_cons_succ, List.getElem?_cons_zero] <;> rfl
      case hQ12 => exact fun _ _ _ h => h
      case hy12 => exact Or.inl ⟨by kernel_rfl, by intro w hSw; go_simp; first | done | with_reducible rfl⟩
      try simp only [Act.put, List.setIfInBounds_toArray, List.set_cons_zero, List.set_cons_succ]
      refine wpAnyH_take (i := 13) (oi := ?o13) (v := ?v13) ?hi13 (by kernel_rfl) (by kernel_rfl) (by kernel_rfl) ?hQ13 ?hy13 (by assumption) ?rest13
      case hi13 => simp only [List.getElem?_toArray, List.getElem?_cons_succ, List.getElem?_cons_zero] <;> rfl
      case hQ13 => exact fun _ _ _ h => h
      case hy13 => exact Or.inl ⟨by kernel_rfl, by intro w hSw; go_simp; first | done | with_reducible rfl⟩
      try simp only [Act.put, List.setIfInBounds_toArray, List.set_cons_zero, List.set_cons_succ]
      refine wpAnyH_take (i := 14) (oi := ?o14) (v := ?v14) ?hi14 (by kernel_rfl) (by kernel_rfl) (by kernel_rfl) ?hQ14 ?hy14 (by assumption) ?rest14
      case hi14 => simp only [List.getElem?_toArray, List.getElem?_cons_succ, List.getElem?_cons_zero] <;> rfl
      case hQ14 => exact fun _ _ _ h => h
      case hy14 => exact Or.inl ⟨by kernel_rfl, by intro w hSw; go_simp; first | done | with_reducible rfl⟩
      try simp only [Act.put, List.setIfInBounds_toArray, List.set_cons_zero, List.set_cons_succ]
      refine wpAnyH_take (i := 15) (oi := ?o15) (v := ?v15) ?hi15 (by kernel_rfl) (by kernel_rfl) (by kernel_rfl) ?hQ15 ?hy15 (by assumption) ?rest15
      case hi15 => simp only [List.getElem?_toArray, List.getElem?_cons_succ, List.getElem?_cons_zero] <;> rfl
      case hQ15 => exact fun _ _ _ h => h
      case hy15 => exact Or.inl ⟨by kernel_rfl, by intro w hSw; go_simp; first | done | with_reducible rfl⟩
      try simp only [Act.put, List.setIfInBounds_toArray, List.set_cons_zero, List.set_cons_succ]
      refine wpAnyH_take (i := 16) (oi := ?o16) (v := ?v16) ?hi16 (by kernel_rfl) (by kernel_rfl) (by kernel_rfl) ?hQ16 ?hy16 (by assumption) ?rest16
      case hi16 => simp only [List.getElem?_toArray, List.getElem?_cons_succ, List.getElem?_cons_zero] <;> rfl
      case hQ16 => exact fun _ _ _ h => h
      case hy16 => exact Or.inl ⟨by kernel_rfl, by intro w hSw; go_simp; first | done | with_reducible rfl⟩
      try simp only [Act.put, List.setIfInBounds_toArray, List.set_cons_zero, List.set_cons_succ]
      refine wpAnyH_take (i := 17) (oi := ?o17) (v := ?v17) ?hi17 (by kernel_rfl) (by kernel_rfl) (by kernel_rfl) ?hQ17 ?hy17 (by assumption) ?rest17
      case hi17 => simp only [List.getElem?_toArray, List.getElem?_cons_succ, List.getElem?_cons_zero] <;> rfl
      case hQ17 => exact fun _ _ _ h => h
      case hy17 => exact Or.inl ⟨by kernel_rfl, by intro w hSw; go_simp; first | done | with_reducible rfl⟩
      try simp only [Act.put, List.setIfInBounds_toArray, List.set_cons_zero, List.set_cons_succ]
      refine wpAnyH_take (i := 18) (oi := ?o18) (v := ?v18) ?hi18 (by kernel_rfl) (by kernel_rfl) (by kernel_rfl) ?hQ18 ?hy18 (by assumption) ?rest18
      case hi18 => simp only [List.getElem?_toArray, List.getElem?_cons_succ, List.getElem?_cons_zero] <;> rfl
      case hQ18 => exact fun _ _ _ h => h
      case hy18 => exact Or.inl ⟨by kernel_rfl, by intro w hSw; go_simp; first | done | with_reducible rfl⟩
      try simp only [Act.put, List.setIfInBounds_toArray, List.set_cons_zero, List.set_cons_succ]
      refine wpAnyH_take (i := 19) (oi := ?o19) (v := ?v19) ?hi19 (by kernel_rfl) (by kernel_rfl) (by kernel_rfl) ?hQ19 ?hy19 (by assumption) ?rest19
      case hi19 => simp only [List.getElem?_toArray, List.getElem?_cons_succ, List.getElem?_cons_zero] <;> rfl
      case hQ19 => exact fun _ _ _ h => h
      case hy19 => exact Or.inl ⟨by kernel_rfl, by intro w hSw; go_simp; first | done | with_reducible rfl⟩
      try simp only [Act.put, List.setIfInBounds_toArray, List.set_cons_zero, List.set_cons_succ]
      refine wpAnyH_take (i := 20) (oi := ?o20) (v := ?v20) ?hi20 (by kernel_rfl) (by kernel_rfl) (by kernel_rfl) ?hQ20 ?hy20 (by assumption) ?rest20
      case hi20 => simp only [List.getElem?_toArray, List.getElem?_cons_succ, List.getElem?_cons_zero] <;> rfl
      case hQ20 => exact fun _ _ _ h => h
      case hy20 => exact Or.inl ⟨by kernel_rfl, by intro w hSw; go_simp; first | done | with_reducible rfl⟩
      try simp only [Act.put, List.setIfInBounds_toArray, List.set_cons_zero, List.set_cons_succ]
      refine wpAnyH_take (i := 21) (oi := ?o21) (v := ?v21) ?hi21 (by kernel_rfl) (by kernel_rfl) (by kernel_rfl) ?hQ21 ?hy21 (by assumption) ?rest21
      case hi21 => simp only [List.getElem?_toArray, List.getElem?_cons_succ, List.getElem?_cons_zero] <;> rfl
      case hQ21 => exact fun _ _ _ h => h
      case hy21 => exact Or.inl ⟨by kernel_rfl, by intro w hSw; go_simp; first | done | with_reducible rfl⟩
      try simp only [Act.put, List.setIfInBounds_toArray, List.set_cons_zero, List.set_cons_succ]
      refine wpAnyH_take (i := 22) (oi := ?o22) (v := ?v22) ?hi22 (by kernel_rfl) (by kernel_rfl) (by kernel_rfl) ?hQ22 ?hy22 (by assumption) ?rest22
      case hi22 => simp only [List.getElem?_toArray, List.getElem?_cons_succ, List.getElem?_cons_zero] <;> rfl
      case hQ22 => exact fun _ _ _ h => h
      case hy22 => exact Or.inl ⟨by kernel_rfl, by intro w hSw; (try dsimp only at hSw); go_simp; first | done | with_reducible rfl⟩
      try simp only [Act.put, List.setIfInBounds_toArray, List.set_cons_zero, List.set_cons_succ]
      refine wpAnyH_take (i := 23) (oi := ?o23) (v := ?v23) ?hi23 (by kernel_rfl) (by kernel_rfl) (by kernel_rfl) ?hQ23 ?hy23 (by assumption) ?rest23
      case hi23 => simp only [List.getElem?_toArray, List.getElem?_cons_succ, List.getElem?_cons_zero] <;> rfl
      case hQ23 => exact fun _ _ _ h => h
      case hy23 => exact Or.inl ⟨by kernel_rfl, by intro w hSw; go_simp; first | done | with_reducible rfl⟩
      try simp only [Act.put, List.setIfInBounds_toArray, List.set_cons_zero, List.set_cons_succ]
      refine wpAnyH_take (i := 25) (oi := ?o25) (v := ?v25) ?hi25 (by kernel_rfl) (by kernel_rfl) (by kernel_rfl) ?hQ25 ?hy25 (by assumption) ?rest25
      case hi25 => simp only [List.getElem?_toArray, List.getElem?_cons_succ, List.getElem?_cons_zero] <;> rfl
      case hQ25 => exact fun _ _ _ h => h
      case hy25 => exact Or.inl ⟨by kernel_rfl, by intro w hSw; (try dsimp only at hSw); go_simp; first | done | with_reducible rfl⟩
      try simp only [Act.put, List.setIfInBounds_toArray, List.set_cons_zero, List.set_cons_succ]
      refine wpAnyH_take (i := 26) (oi := ?o26) (v := ?v26) ?hi26 (by kernel_rfl) (by kernel_rfl) (by kernel_rfl) ?hQ26 ?hy26 (by assumption) ?rest26
      case hi26 => simp only [List.getElem?_toArray, List.getElem?_cons_succ, List.getElem?_cons_zero] <;> rfl
      case hQ26 => exact fun _ _ _ h => h
      case hy26 => exact Or.inl ⟨by kernel_rfl, by intro w hSw; go_simp; first | done | with_reducible rfl⟩
      try simp only [Act.put, List.setIfInBounds_toArray, List.set_cons_zero, List.set_cons_succ]
      refine wpAnyH_ready (rs := [24]) (by kernel_rfl) (by simp) (AllReadyH.cons (o := ?o24) ?hi24 (fun K hK => ?step24) AllReadyH.nil)
      case hi24 => simp only [List.getElem?_toArray, List.getElem?_cons_succ, List.getElem?_cons_zero] <;> rfl
      go_simp
      (go_at_call 43; with_reducible refine (HNR.out _ (below_step HB.out HBW.out)).mono ?_; rintro e w9 ⟨vN, rfl, ho9, hb9⟩; obtain ⟨AN, cN, rfl⟩ := Kd.R_slice ho9; obtain ⟨-, hcN, hCN⟩ := Kd.R_reads' ho9; have HCN := Aside0.mk hCN; clear hCN ho9; have HBW_ := Aside0.mk (below_step HBW.out hb9); clear HBW; have HBW := HBW_; clear HBW_; clear hb9)
      go_wp2_with fail
      refine hK.out _ _ ?hS24 (fun hHeld => ?rest24)
      case hS24 => with_reducible exact ⟨HBW.out, HKEEP.out _ HBW.out⟩
      clear hK K
      try simp only [Act.put, List.setIfInBounds_toArray, List.set_cons_zero, List.set_cons_succ]
      refine wpAnyH_ready (rs := [27]) (by kernel_rfl) (by simp) (AllReadyH.cons (o := ?o27) ?hi27 (fun K hK => ?step27) AllReadyH.nil)
      case hi27 => simp only [List.getElem?_toArray, List.getElem?_cons_succ, List.getElem?_cons_zero] <;> rfl
      go_simp
      (go_at_call 44; with_reducible refine (HND.out _ (below_step HB.out HBW.out)).mono ?_; rintro e w9b ⟨vN2, rfl, ho9, hb9⟩; obtain ⟨AN2, cN2, rfl⟩ := Kd.R_slice ho9; obtain ⟨-, hcN2, hCN2⟩ := Kd.R_reads' ho9; have HCN2 := Aside0.mk hCN2; have HCNb := Aside0.mk (Kd.C_below HCN.out hb9); clear hCN2 ho9 HCN; have HBW_ := Aside0.mk (below_step HBW.out hb9); clear HBW; have HBW := HBW_; clear HBW_; clear hb9)
      go_wp2_with fail
      refine hK.out _ _ ?hS27 (fun hHeld => ?rest27)
      case hS27 => with_reducible exact ⟨HBW.out, HKEEP.out _ HBW.out⟩
      clear hK K
      try simp only [Act.put, List.setIfInBounds_toArray, List.set_cons_zero, List.set_cons_succ]
      refine wpAnyH_ready (rs := [28]) (by kernel_rfl) (by simp) (AllReadyH.cons (o := ?o28) ?hi28 (fun K hK => ?step28) AllReadyH.nil)
      case hi28 => simp only [List.getElem?_toArray, List.getElem?_cons_succ, List.getElem?_cons_zero] <;> rfl
      go_simp
      (go_at_call 19; with_reducible refine (HI2.out AN cN AN2 cN2 _ HCNb.out hcN HCN2.out hcN2).mono ?_; rintro e w9c ⟨rfl, hb9⟩; have HBW_ := Aside0.mk (below_step HBW.out hb9); clear HBW; have HBW := HBW_; clear HBW_; clear hb9 HCNb HCN2)
      go_wp2_with fail
      refine hK.out _ _ ?hS28 (fun hHeld => ?rest28)
      case hS28 => with_reducible exact ⟨HBW.out, HKEEP.out _ HBW.out⟩
      clear hK K
      try simp only [Act.put, List.setIfInBounds_toArray, List.set_cons_zero, List.set_cons_succ]
      refine wpAnyH_take (i := 29) (oi := ?o29) (v := ?v29) ?hi29 (by kernel_rfl) (by kernel_rfl) (by kernel_rfl) ?hQ29 ?hy29 (by assumption) ?rest29
      case hi29 => simp only [List.getElem?_toArray, List.getElem?_cons_succ, List.getElem?_cons_zero] <;> rfl
      case hQ29 => exact fun _ _ _ h => h
      case hy29 => exact Or.inl ⟨by kernel_rfl, by intro w hSw; go_simp; first | done | with_reducible rfl⟩
      try simp only [Act.put, List.setIfInBounds_toArray, List.set_cons_zero, List.set_cons_succ]
      refine wpAnyH_take (i := 30) (oi := ?o30) (v := ?v30) ?hi30 (by kernel_rfl) (by kernel_rfl) (by kernel_rfl) ?hQ30 ?hy30 (by assumption) ?rest30
      case hi30 => simp only [List.getElem?_toArray, List.getElem?_cons_succ, List.getElem?_cons_zero] <;> rfl
      case hQ30 => exact fun _ _ _ h => h
      case hy30 => exact Or.inl ⟨by kernel_rfl, by intro w hSw; go_simp; first | done | with_reducible rfl⟩
      try simp only [Act.put, List.setIfInBounds_toArray, List.set_cons_zero, List.set_cons_succ]
      refine wpAnyH_take (i := 31) (oi := ?o31) (v := ?v31) ?hi31 (by kernel_rfl) (by kernel_rfl) (by kernel_rfl) ?hQ31 ?hy31 (by assumption) ?rest31
      case hi31 => simp only [List.getElem?_toArray, List.getElem?_cons_succ, List.getElem?_cons_zero] <;> rfl
      case hQ31 => exact fun _ _ _ h => h
      case hy31 => exact Or.inl ⟨by kernel_rfl, by intro w hSw; (try dsimp only at hSw); go_simp; first | done | with_reducible rfl⟩
      try simp only [Act.put, List.setIfInBounds_toArray, List.set_cons_zero, List.set_cons_succ]
      refine wpAnyH_take (i := 33) (oi := ?o33) (v := ?v33) ?hi33 (by kernel_rfl) (by kernel_rfl) (by kernel_rfl) ?hQ33 ?hy33 (by assumption) ?rest33
      case hi33 => simp only [List.getElem?_toArray, List.getElem?_cons_succ, List.getElem?_cons_zero] <;> rfl
      case hQ33 => exact fun _ _ _ h => h
      case hy33 => exact Or.inl ⟨by kernel_rfl, by intro w hSw; (try dsimp only at hSw); go_simp; first | done | with_reducible rfl⟩
      try simp only [Act.put, List.setIfInBounds_toArray, List.set_cons_zero, List.set_cons_succ]
      refine wpAnyH_ready (rs := [32]) (by kernel_rfl) (by simp) (AllReadyH.cons (o := ?o32) ?hi32 (fun K hK => ?step32) AllReadyH.nil)
      case hi32 => simp only [List.getElem?_toArray, List.getElem?_cons_succ, List.getElem?_cons_zero] <;> rfl
      go_simp
      (go_at_call 45; with_reducible refine (HRR.out _ (below_step HB.out HBW.out)).mono ?_; rintro e w9d ⟨vR, rfl, ho9, hb9⟩; obtain ⟨AR, cR, rfl⟩ := Kd.R_slice ho9; obtain ⟨-, hcR, hCR⟩ := Kd.R_reads' ho9; have HCR := Aside0.mk hCR; clear hCR ho9; have HBW_ := Aside0.mk (below_step HBW.out hb9); clear HBW; have HBW := HBW_; clear HBW_; clear hb9)
      go_wp2_with fail
      refine hK.out _ _ ?hS32 (fun hHeld => ?rest32)
      case hS32 => with_reducible exact ⟨HBW.out, HKEEP.out _ HBW.out⟩
      clear hK K
      try simp only [Act.put, List.setIfInBounds_toArray, List.set_cons_zero, List.set_cons_succ]
      refine wpAnyH_ready (rs := [34]) (by kernel_rfl) (by simp) (AllReadyH.cons (o := ?o34) ?hi34 (fun K hK => ?step34) AllReadyH.nil)
      case hi34 => simp only [List.getElem?_toArray, List.getElem?_cons_succ, List.getElem?_cons_zero] <;> rfl
      go_simp
      (go_at_call 46; with_reducible refine (HRD.out _ (below_step HB.out HBW.out)).mono ?_; rintro e w9e ⟨vR2, rfl, ho9, hb9⟩; obtain ⟨AR2, cR2, rfl⟩ := Kd.R_slice ho9; obtain ⟨-, hcR2, hCR2⟩ := Kd.R_reads' ho9; have HCR2 := Aside0.mk hCR2; have HCRb := Aside0.mk (Kd.C_below HCR.out hb9); clear hCR2 ho9 HCR; have HBW_ := Aside0.mk (below_step HBW.out hb9); clear HBW; have HBW := HBW_; clear HBW_; clear hb9)
      go_wp2_with fail
      refine hK.out _ _ ?hS34 (fun hHeld => ?rest34)
      case hS34 => with_reducible exact ⟨HBW.out, HKEEP.out _ HBW.out⟩
      clear hK K
      try simp only [Act.put, List.setIfInBounds_toArray, List.set_cons_zero, List.set_cons_succ]
      refine wpAnyH_ready (rs := [35]) (by kernel_rfl) (by simp) (AllReadyH.cons (o := ?o35) ?hi35 (fun K hK => ?step35) AllReadyH.nil)
      case hi35 => simp only [List.getElem?_toArray, List.getElem?_cons_succ, List.getElem?_cons_zero] <;> rfl
      go_simp
      (go_at_call 19; with_reducible refine (HI3.out AR cR AR2 cR2 _ HCRb.out hcR HCR2.out hcR2).mono ?_; rintro e w9f ⟨rfl, hb9⟩; have HBW_ := Aside0.mk (below_step HBW.out hb9); clear HBW; have HBW := HBW_; clear HBW_; clear hb9 HCRb HCR2)
      go_wp2_with fail
      refine hK.out _ _ ?hS35 (fun hHeld => ?rest35)
      case hS35 => with_reducible exact ⟨HBW.out, HKEEP.out _ HBW.out⟩
      clear hK K
      try simp only [Act.put, List.setIfInBounds_toArray, List.set_cons_zero, List.set_cons_succ]
      refine wpAnyH_take (i := 36) (oi := ?o36) (v := ?v36) ?hi36 (by kernel_rfl) (by kernel_rfl) (by kernel_rfl) ?hQ36 ?hy36 (by assumption) ?rest36
      case hi36 => simp only [List.getElem?_toArray, List.getElem?_cons_succ, List.getElem?_cons_zero] <;> rfl
      case hQ36 => exact fun _ _ _ h => h
      case hy36 => exact Or.inl ⟨by kernel_rfl, by intro w hSw; go_simp; first | done | with_reducible rfl⟩
      try simp only [Act.put, List.setIfInBounds_toArray, List.set_cons_zero, List.set_cons_succ]
      refine wpAnyH_take (i := 37) (oi := ?o37) (v := ?v37) ?hi37 (by kernel_rfl) (by kernel_rfl) (by kernel_rfl) ?hQ37 ?hy37 (by assumption) ?rest37
      case hi37 => simp only [List.getElem?_toArray, List.getElem?_cons_succ, List.getElem?_cons_zero] <;> rfl
      case hQ37 => exact fun _ _ _ h => h
      case hy37 => exact Or.inl ⟨by kernel_rfl, by intro w hSw; go_simp; first | done | with_reducible rfl⟩
      try simp only [Act.put, List.setIfInBounds_toArray, List.set_cons_zero, List.set_cons_succ]
      refine wpAnyH_ready (rs := [38]) (by kernel_rfl) (by simp) (AllReadyH.cons (o := ?o38) ?hi38 (fun K hK => ?step38) AllReadyH.nil)
      case hi38 => simp only [List.getElem?_toArray, List.getElem?_cons_succ, List.getElem?_cons_zero] <;> rfl
      go_simp
      (go_at_call 39; with_reducible refine (HAL.out _).mono ?_; rintro e w9g ⟨rfl, hb9⟩; have HBW_ := Aside0.mk (below_step HBW.out hb9); clear HBW; have HBW := HBW_; clear HBW_; clear hb9)
      go_wp2_with fail
      refine hK.out _ _ ?hS38 (fun hHeld => ?rest38)
      case hS38 => with_reducible exact ⟨HBW.out, HKEEP.out _ HBW.out⟩
      clear hK K
      try simp only [Act.put, List.setIfInBounds_toArray, List.set_cons_zero, List.set_cons_succ]
      refine wpAnyH_take (i := 39) (oi := ?o39) (v := ?v39) ?hi39 (by kernel_rfl) (by kernel_rfl) (by kernel_rfl) ?hQ39 ?hy39 (by assumption) ?rest39
      case hi39 => simp only [List.getElem?_toArray, List.getElem?_cons_succ, List.getElem?_cons_zero] <;> rfl
      case hQ39 => exact fun _ _ _ h => h
      case hy39 => exact Or.inl ⟨by kernel_rfl, by intro w hSw; go_simp; first | done | with_reducible rfl⟩
      try simp only [Act.put, List.setIfInBounds_toArray, List.set_cons_zero, List.set_cons_succ]
      refine wpAnyH_take (i := 40) (oi := ?o40) (v := ?v40) ?hi40 (by kernel_rfl) (by kernel_rfl) (by kernel_rfl) ?hQ40 ?hy40 (by assumption) ?rest40
      case hi40 => simp only [List.getElem?_toArray, List.getElem?_cons_succ, List.getElem?_cons_zero] <;> rfl
      case hQ40 => exact fun _ _ _ h => h
      case hy40 => exact Or.inl ⟨by kernel_rfl, by intro w hSw; go_simp; first | done | with_reducible rfl⟩
      try simp only [Act.put, List.setIfInBounds_toArray, List.set_cons_zero, List.set_cons_succ]
      refine wpAnyH_done (by kernel_rfl) ?_ _
      go_wp2_with fail
      go_ret
      exact ⟨rfl, below_step HB.out HBW.out⟩
  · rw [if_neg hall] at h
    cases h
end Go.Proofs.Ythgjieigpfcekaa.QW
