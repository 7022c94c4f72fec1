/- The law WhySteps' own function: walked by hand; what its callees tell makes each test come out. -/
import Derived.Test.YthgjieigpfcekaaWyAlive
namespace Go.Proofs.Ythgjieigpfcekaa.QW
open Go.RowKit Go.Proofs.YthgjieigpfcekaaW.PrintWords Go.Proofs.YthgjieigpfcekaaW.PrintLast Go.Proofs.YthgjieigpfcekaaW.PrintMore Go.Proofs.Ythgjieigpfcekaa.Gr
set_option linter.unusedVariables false
set_option linter.unusedSimpArgs false
def oriellaw32_WhySteps.f (k : Nat) (E : List Int) (L : List PP) (V : List Int) (a b c : Int) : Option Bool := if E.all okI = true ∧ okL L = true ∧ oriellaw32_alive.f k = some true then some true else none
def modn (n a : Int) : Int := (a.tmod n + n).tmod n
theorem modn_in (n a : Int) (h : 0 < n) : 0 ≤ modn n a ∧ modn n a < n := by
  unfold modn
  have h1 := Int.tmod_lt_of_pos a h
  have h2 := Int.lt_tmod_of_pos a h
  rw [Int.tmod_eq_emod_of_nonneg (by omega)]
  exact ⟨Int.emod_nonneg _ (by omega), Int.emod_lt_of_pos _ h⟩
theorem modn_wrap (n a : Int) (h : 0 < n) (h2 : n ≤ 60) : (wrap64 (a.tmod n + n)).tmod n = modn n a := by
  unfold modn
  have h1 := Int.tmod_lt_of_pos a h
  have h2 := Int.lt_tmod_of_pos a h
  rw [show wrap64 (a.tmod n + n) = a.tmod n + n by unfold wrap64; omega]
theorem pathV_in (E : List Int) (L : List PP) (a b : Int) (a0 : 0 ≤ a) (a1 : a < (E.length : Int)) (b0 : 0 ≤ b) (b1 : b < (E.length : Int)) :
    (∃ n : Nat, isD L (rd E a) (rd E b) n ∧ pathV E L a b = (pathZ L (rd E b) n (rd E a), true)) ∨ ((¬ ∃ n, isD L (rd E a) (rd E b) n) ∧ pathV E L a b = ([], false)) := by
  unfold pathV
  rcases farZ_cases L (rd E a) (rd E b) with ⟨n, hn, e⟩ | ⟨hn, e⟩
  · left
    refine ⟨n, hn, ?_⟩
    rw [if_pos ⟨⟨⟨a0, a1⟩, b0, b1⟩, by rw [e]; omega⟩, e, Int.toNat_natCast]
  · right
    refine ⟨hn, ?_⟩
    rw [if_neg (by rintro ⟨_, h⟩; rw [e] at h; omega)]
theorem path_f2 (E : List Int) (L : List PP) (V : List Int) (a b : Int) (hE : E.all okI = true) (hok : okL L = true) (hL : L.length ≤ 1000) : why_Path.f 2002 E L V a b = some ((pathV E L a b).1, (pathV E L a b).2) := path_f E L V a b hE hok hL
/-- How far, and whether there is a way. -/
noncomputable def farV (E : List Int) (L : List PP) (a b : Int) : Int × Bool := (max ((pathV E L a b).1.length - 1 : Int) 0, (pathV E L a b).2)
theorem farV_in (E : List Int) (L : List PP) (a b : Int) (a0 : 0 ≤ a) (a1 : a < (E.length : Int)) (b0 : 0 ≤ b) (b1 : b < (E.length : Int)) :
    (∃ n : Nat, isD L (rd E a) (rd E b) n ∧ farV E L a b = ((n : Int), true)) ∨ ((¬ ∃ n, isD L (rd E a) (rd E b) n) ∧ farV E L a b = (0, false)) := by
  unfold farV
  rcases pathV_in E L a b a0 a1 b0 b1 with ⟨n, hn, e⟩ | ⟨hn, e⟩
  · refine .inl ⟨n, hn, ?_⟩
    rw [e]
    dsimp only
    rw [pathZ_len]
    congr 1
    omega
  · refine .inr ⟨hn, ?_⟩
    rw [e]
    rfl
theorem farV_tri (E : List Int) (L : List PP) (a b c : Int) (a0 : 0 ≤ a) (a1 : a < (E.length : Int)) (b0 : 0 ≤ b) (b1 : b < (E.length : Int)) (c0 : 0 ≤ c) (c1 : c < (E.length : Int)) :
    (farV E L a b).2 = true → (farV E L b c).2 = true → (farV E L a c).2 = true ∧ (farV E L a c).1 ≤ (farV E L a b).1 + (farV E L b c).1 := by
  rcases farV_in E L a b a0 a1 b0 b1 with ⟨n, hn, e⟩ | ⟨hn, e⟩ <;> rcases farV_in E L b c b0 b1 c0 c1 with ⟨m, hm, f⟩ | ⟨hm, f⟩ <;> rw [e, f] <;> intro h1 h2
  · obtain ⟨d, hd, hle⟩ := isD_tri hn hm
    rcases farV_in E L a c a0 a1 c0 c1 with ⟨k, hk, g⟩ | ⟨hk, g⟩
    · rw [g, isD_one hk hd]
      exact ⟨rfl, by dsimp only; omega⟩
    · exact absurd ⟨d, hd⟩ hk
  · cases h2
  · cases h1
  · cases h1
theorem farV_symm (E : List Int) (L : List PP) (a b : Int) (a0 : 0 ≤ a) (a1 : a < (E.length : Int)) (b0 : 0 ≤ b) (b1 : b < (E.length : Int)) : farV E L b a = farV E L a b := by
  rcases farV_in E L a b a0 a1 b0 b1 with ⟨n, hn, e⟩ | ⟨hn, e⟩ <;> rcases farV_in E L b a b0 b1 a0 a1 with ⟨m, hm, f⟩ | ⟨hm, f⟩ <;> rw [e, f]
  · rw [isD_one (isD_symm hm) hn]
  · exact absurd ⟨n, isD_symm hn⟩ hm
  · exact absurd ⟨m, isD_symm hm⟩ hn
theorem farV_fst (E : List Int) (L : List PP) (a b : Int) (a0 : 0 ≤ a) (a1 : a < (E.length : Int)) (b0 : 0 ≤ b) (b1 : b < (E.length : Int)) (hL : L.length ≤ 1000) : 0 ≤ (farV E L a b).1 ∧ (farV E L a b).1 ≤ 1000 := by
  rcases farV_in E L a b a0 a1 b0 b1 with ⟨n, hn, e⟩ | ⟨hn, e⟩ <;> rw [e]
  · have := isD_le hn
    dsimp only
    omega
  · dsimp only
    omega
theorem where_mem (p : Int → Bool) (n : Nat) (i : Int) : (whereL p (n : Int)).contains i = (decide (0 ≤ i ∧ i < (n : Int)) && p i) := by
  unfold whereL
  rw [Bool.eq_iff_iff, List.contains_iff_mem, Int.toNat_natCast, List.mem_filter, List.mem_map, Bool.and_eq_true, decide_eq_true_iff]
  constructor
  · rintro ⟨⟨j, hj, rfl⟩, hp⟩
    rw [List.mem_range] at hj
    exact ⟨⟨by omega, by omega⟩, hp⟩
  · rintro ⟨⟨h0, h1⟩, hp⟩
    exact ⟨⟨i.toNat, by rw [List.mem_range]; omega, by omega⟩, hp⟩
theorem fam_mem (E : List Int) (L : List PP) (o i : Int) (h0 : 0 ≤ o) (h1 : o < (E.length : Int)) : (famB E L o).contains i = (decide (0 ≤ i ∧ i < (E.length : Int)) && linkB L (rd E o) (rd E i)) := by
  unfold famB
  rw [if_pos ⟨h0, h1⟩, where_mem]
/-- Who is of one family is at some distance. -/
theorem fam_path (E : List Int) (L : List PP) (a b : Int) (a0 : 0 ≤ a) (a1 : a < (E.length : Int)) (b0 : 0 ≤ b) (b1 : b < (E.length : Int)) : (famB E L a).contains b = (farV E L a b).2 := by
  have hm : (famB E L a).contains b = linkB L (rd E a) (rd E b) := by
    rw [fam_mem E L a b a0 a1, decide_eq_true ⟨b0, b1⟩, Bool.true_and]
  rw [hm, Bool.eq_iff_iff, linkB_iff]
  rcases farV_in E L a b a0 a1 b0 b1 with ⟨n, hn, e⟩ | ⟨hn, e⟩ <;> rw [e]
  · exact ⟨fun _ => rfl, fun _ => walk_conn hn.1⟩
  · refine ⟨fun h => ?_, fun h => by cases h⟩
    obtain ⟨n, hw⟩ := conn_walk h
    obtain ⟨m, _, hm⟩ := walk_isD hw
    exact absurd ⟨m, hm⟩ hn
set_option maxHeartbeats 8000000 in
set_option maxRecDepth 100000 in
theorem oriellaw32_WhySteps.calls (k : Nat) (A0_0 : Option Addr) (c0_0 : Nat) (l0_0 : List Int) (A0_1 : Option Addr) (c0_1 : Nat) (l0_1 : List S34) (A0_2 : Option Addr) (c0_2 : Nat) (l0_2 : List Int) (a1 a2 a3 : Int) (r : Bool) (w : World)
    (hr0_0 : Kd.C (Kd.int .i64) w A0_0 l0_0.length l0_0) (hc0_0 : l0_0.length ≤ c0_0) (hr0_1 : Kd.C k34 w A0_1 l0_1.length l0_1) (hc0_1 : l0_1.length ≤ c0_1) (hr0_2 : Kd.C (Kd.int .i64) w A0_2 l0_2.length l0_2) (hc0_2 : l0_2.length ≤ c0_2) (h : oriellaw32_WhySteps.f k l0_0 l0_1 l0_2 a1 a2 a3 = some r) :
    Calls Try.prog 12 #[.agg #[.slice A0_0 l0_0.length c0_0, .slice A0_1 l0_1.length c0_1, .slice A0_2 l0_2.length c0_2], .int .i64 a1, .int .i64 a2, .int .i64 a3] w fun e w' => e = .returned (.bool r) ∧ Below w.heap.size w w' := by
  have hu51 := Try.underlying51
  have hu24 := Try.underlying24
  unfold oriellaw32_WhySteps.f at h
  by_cases hall : l0_0.all okI = true ∧ okL l0_1 = true ∧ oriellaw32_alive.f k = some true
  · rw [if_pos hall] at h
    obtain rfl := Option.some.inj h
    clear h
    obtain ⟨hokE, hokL, hal⟩ := hall
    have HAL := Aside0.mk (fun W => oriellaw32_alive.calls k true W hal)
    clear hal
    by_cases hfew : (l0_0.length ≤ 60 ∧ l0_1.length ≤ 40) ∧ 0 < l0_0.length
    · obtain ⟨⟨h60, h40⟩, hpos⟩ := hfew
      have hL1 : l0_1.length ≤ 1000 := by omega
      have HPA := Aside0.mk (fun (W : World) (hb : Below w.heap.size w W) (a b : Int) => why_Path.calls 2002 A0_0 c0_0 l0_0 A0_1 c0_1 l0_1 A0_2 c0_2 l0_2 a b (pathV l0_0 l0_1 a b).1 (pathV l0_0 l0_1 a b).2 W (Kd.C_below hr0_0 hb) hc0_0 (Kd.C_below hr0_1 hb) hc0_1 (Kd.C_below hr0_2 hb) hc0_2 (path_f2 l0_0 l0_1 l0_2 a b hokE hokL hL1))
      have HFR := Aside0.mk (fun (W : World) (hb : Below w.heap.size w W) (a b : Int) => why_Far.calls 2002 A0_0 c0_0 l0_0 A0_1 c0_1 l0_1 A0_2 c0_2 l0_2 a b _ _ W (Kd.C_below hr0_0 hb) hc0_0 (Kd.C_below hr0_1 hb) hc0_1 (Kd.C_below hr0_2 hb) hc0_2 (far_f l0_0 l0_1 l0_2 a b hokE hokL hL1))
      have HNR := Aside0.mk (fun (W : World) (hb : Below w.heap.size w W) (x : Int) => near_any A0_0 c0_0 l0_0 A0_1 c0_1 l0_1 A0_2 c0_2 l0_2 x W (Kd.C_below hr0_0 hb) hc0_0 (Kd.C_below hr0_1 hb) hc0_1 (Kd.C_below hr0_2 hb) hc0_2 (by omega))
      have HFM := Aside0.mk (fun (W : World) (hb : Below w.heap.size w W) (o : Int) (K : Nat) (fam : List Int) (hf : graph_Family.f K l0_0 l0_1 l0_2 o = some fam) => graph_Family.calls K A0_0 c0_0 l0_0 A0_1 c0_1 l0_1 A0_2 c0_2 l0_2 o fam W (Kd.C_below hr0_0 hb) hc0_0 (Kd.C_below hr0_1 hb) hc0_1 (Kd.C_below hr0_2 hb) hc0_2 hf)
      have HC0 := Aside0.mk hr0_0
      have HOE := Lib.hid hokE
      have HOL := Lib.hid hokL
      clear hokE hokL hr0_0 hr0_1 hr0_2 hc0_1 hc0_2
      obtain ⟨nE, hnE⟩ : ∃ nE, l0_0.length = nE := ⟨_, rfl⟩
      obtain ⟨nL, hnL⟩ : ∃ nL, l0_1.length = nL := ⟨_, rfl⟩
      generalize Value.slice A0_2 l0_2.length c0_2 = s2 at *
      rw [hnE] at HPA HFR HNR HFM h60 hpos hc0_0 ⊢
      rw [hnL] at HPA HFR HNR HFM h40 hL1 ⊢
      have HNE := Lib.hid hnE
      have HNL := Lib.hid hnL
      clear hnE hnL
      have e1 : ¬ (60 : Int) < (nE : Int) := by omega
      have e2 : ¬ (40 : Int) < (nL : Int) := by omega
      have e3 : ((nE : Int) == 0) = false := beq_eq_false_iff_ne.2 (by omega)
      have e4 : (nE : Int) ≠ 0 := by omega
      have hblk : (w.alloc (.cells #[.slice A0_0 nE c0_0, .slice A0_1 nL c0_1, s2] 51)).heap[w.heap.size]? = some (.cells #[.slice A0_0 nE c0_0, .slice A0_1 nL c0_1, s2] 51 (0, 0)) := blk_new w _
      have HB0 := Aside0.mk (below_alloc (Below.refl w.heap.size w) (.cells #[.slice A0_0 nE c0_0, .slice A0_1 nL c0_1, s2] 51))
      have HG0 := Aside0.mk hblk
      clear hblk
      go_enter Try.func12, Try.ntmps12
      go_wp2_with fail
      go_quiet (fail)
      go_wp2_with fail
      have hpz : (0 : Int) < (nE : Int) := by omega
      have h60z : (nE : Int) ≤ 60 := by omega
      rw [modn_wrap _ _ hpz h60z, modn_wrap _ _ hpz h60z, modn_wrap _ _ hpz h60z]
      obtain ⟨m1, m1'⟩ := modn_in (nE : Int) a1 hpz
      obtain ⟨m2, m2'⟩ := modn_in (nE : Int) a2 hpz
      obtain ⟨m3, m3'⟩ := modn_in (nE : Int) a3 hpz
      generalize modn (nE : Int) a1 = a at *
      generalize modn (nE : Int) a2 = b at *
      generalize modn (nE : Int) a3 = c at *
      have a1x : a < (l0_0.length : Int) := by rw [HNE.out]; exact m1'
      have b1x : b < (l0_0.length : Int) := by rw [HNE.out]; exact m2'
      have c1x : c < (l0_0.length : Int) := by rw [HNE.out]; exact m3'
      have htri := farV_tri l0_0 l0_1 a b c m1 a1x m2 b1x m3 c1x
      have hsym := farV_symm l0_0 l0_1 a b m1 a1x m2 b1x
      have hb1 := farV_fst l0_0 l0_1 a b m1 a1x m2 b1x (by rw [HNL.out]; exact hL1)
      have hb2 := farV_fst l0_0 l0_1 b c m2 b1x m3 c1x (by rw [HNL.out]; exact hL1)
      have hfam := fam_path l0_0 l0_1 a b m1 a1x m2 b1x
      have hpv := pathV_in l0_0 l0_1 a b m1 a1x m2 b1x
      have hfv : farV l0_0 l0_1 a b = (max ((pathV l0_0 l0_1 a b).1.length - 1 : Int) 0, (pathV l0_0 l0_1 a b).2) := rfl
      have HFR2 := Aside0.mk (show ∀ (W : World), Below w.heap.size w W → ∀ a b : Int, Calls Try.prog 42 #[.agg #[.slice A0_0 nE c0_0, .slice A0_1 nL c0_1, s2], .int .i64 a, .int .i64 b] W fun e w' => e = .returned (.tuple #[.int .i64 (farV l0_0 l0_1 a b).1, .bool (farV l0_0 l0_1 a b).2]) ∧ Below W.heap.size W w' from HFR.out)
      obtain ⟨K1, hK1⟩ := Ev.rounds (family_ev l0_0 l0_1 l0_2 (by rw [HNE.out]; omega) (by rw [HNL.out]; exact hL1) HOE.out HOL.out a)
      have hflen : (famB l0_0 l0_1 a).length ≤ 1000 := by
        unfold famB
        split
        · refine Nat.le_trans (where_len _ _) ?_
          rw [HNE.out]
          omega
        · simp
      obtain ⟨K2, hK2⟩ := Ev.rounds (in_ev (famB l0_0 l0_1 a) (by omega) b)
      rw [hfam] at hK2
      have HFAM := Aside0.mk (fun (W : World) (hb : Below w.heap.size w W) => HFM.out W hb a K1 _ hK1)
      obtain ⟨PV, hPV⟩ : ∃ PV, pathV l0_0 l0_1 a b = PV := ⟨_, rfl⟩
      have HP1 := Aside0.mk (fun (W : World) (hb : Below w.heap.size w W) => HPA.out W hb a b)
      rw [hPV] at HP1 hpv hfv
      have HB := Aside0.mk (pw_below_drewN HB0.out nq)
      have HG := Aside0.mk (show ((w.alloc (.cells #[.slice A0_0 nE c0_0, .slice A0_1 nL c0_1, s2] 51)).drewN nq).heap[w.heap.size]? = some (.cells #[.slice A0_0 nE c0_0, .slice A0_1 nL c0_1, s2] 51 (0, 0)) from HG0.out)
      have hPS : (farV l0_0 l0_1 a b).2 = PV.2 := by rw [hfv]
      have HPX := Aside0.mk (HP1.out _ HB.out)
      clear HB0 HG0 HPA HFR HFM hfam hK1 HOE HOL HP1
      obtain ⟨l, is⟩ := PV
      dsimp only at HPX hPS hpv hfv
      refine HPX.out.mono ?_
      rintro e w2 ⟨v10, rfl, ho, hb⟩
      obtain ⟨A10, c10, rfl⟩ := Kd.R_slice ho
      obtain ⟨-, hc10, hC10⟩ := Kd.R_reads' ho
      have HCL := Aside0.mk hC10
      clear ho hC10 HPX
      have q0 := True.intro
      have q1 := True.intro
      have q2 := True.intro
      have HG_ := Aside0.mk ((hb.block _ (blk_lt HG.out)).trans HG.out)
      have HB_ := Aside0.mk (below_step HB.out hb)
      clear q0 q1 q2 HG HB  hb
      have HG := HG_
      have HB := HB_
      clear HG_ HB_ 
      have q0 : w2.cell? ⟨w.heap.size, 0, none⟩ = some (.slice A0_0 nE c0_0) := (blk_cell HG.out 0).trans rfl
      have q1 : w2.cell? ⟨w.heap.size, 1, none⟩ = some (.slice A0_1 nL c0_1) := (blk_cell HG.out 1).trans rfl
      have q2 : w2.cell? ⟨w.heap.size, 2, none⟩ = some s2 := (blk_cell HG.out 2).trans rfl
      have HX := Aside0.mk (HFAM.out w2 HB.out)
      go_wp2_with fail
      refine HX.out.mono ?_
      rintro e w3 ⟨vF, rfl, ho, hb⟩
      obtain ⟨AF, cF, rfl⟩ := Kd.R_slice ho
      obtain ⟨-, hcF, hCF⟩ := Kd.R_reads' ho
      have HIN := Aside0.mk (orielref12_In.calls K2 AF cF _ b _ w3 hCF hcF hK2)
      clear ho hCF HX HFAM
      have HG_ := Aside0.mk ((hb.block _ (blk_lt HG.out)).trans HG.out)
      have HB_ := Aside0.mk (below_step HB.out hb)
      have HCL_ := Aside0.mk (Kd.C_below HCL.out hb)
      clear q0 q1 q2 HG HB HCL hb
      have HG := HG_
      have HB := HB_
      have HCL := HCL_
      clear HG_ HB_ HCL_
      have q0 : w3.cell? ⟨w.heap.size, 0, none⟩ = some (.slice A0_0 nE c0_0) := (blk_cell HG.out 0).trans rfl
      have q1 : w3.cell? ⟨w.heap.size, 1, none⟩ = some (.slice A0_1 nL c0_1) := (blk_cell HG.out 1).trans rfl
      have q2 : w3.cell? ⟨w.heap.size, 2, none⟩ = some s2 := (blk_cell HG.out 2).trans rfl
      go_wp2_with fail
      refine HIN.out.mono ?_
      rintro e w4 ⟨rfl, hd⟩
      have hb := hd.below
      clear hd HIN
      have HG_ := Aside0.mk ((hb.block _ (blk_lt HG.out)).trans HG.out)
      have HB_ := Aside0.mk (below_step HB.out hb)
      have HCL_ := Aside0.mk (Kd.C_below HCL.out hb)
      clear q0 q1 q2 HG HB HCL hb
      have HG := HG_
      have HB := HB_
      have HCL := HCL_
      clear HG_ HB_ HCL_
      have q0 : w4.cell? ⟨w.heap.size, 0, none⟩ = some (.slice A0_0 nE c0_0) := (blk_cell HG.out 0).trans rfl
      have q1 : w4.cell? ⟨w.heap.size, 1, none⟩ = some (.slice A0_1 nL c0_1) := (blk_cell HG.out 1).trans rfl
      have q2 : w4.cell? ⟨w.heap.size, 2, none⟩ = some s2 := (blk_cell HG.out 2).trans rfl
      rw [hPS]
      have HFab := Aside0.mk (fun (W : World) (hb : Below w.heap.size w W) => HFR2.out W hb a b)
      have HFbc := Aside0.mk (fun (W : World) (hb : Below w.heap.size w W) => HFR2.out W hb b c)
      have HFac := Aside0.mk (fun (W : World) (hb : Below w.heap.size w W) => HFR2.out W hb a c)
      have HFba := Aside0.mk (fun (W : World) (hb : Below w.heap.size w W) => HFR2.out W hb b a)
      rw [hsym] at HFba
      obtain ⟨fx, hfx⟩ : ∃ fx, farV l0_0 l0_1 a b = fx := ⟨_, rfl⟩
      obtain ⟨fy, hfy⟩ : ∃ fy, farV l0_0 l0_1 b c = fy := ⟨_, rfl⟩
      obtain ⟨fz, hfz⟩ : ∃ fz, farV l0_0 l0_1 a c = fz := ⟨_, rfl⟩
      rw [hfx] at HFab HFba htri hb1 hPS hfv
      rw [hfy] at HFbc htri hb2
      rw [hfz] at HFac htri
      clear hfx hfy hfz hsym HFR2
      obtain ⟨x, xs⟩ := fx
      obtain ⟨y, so⟩ := fy
      obtain ⟨z, to_⟩ := fz
      dsimp only at HFab HFba HFbc HFac htri hb1 hb2 hPS hfv
      subst hPS
      have HTRI := Lib.hid htri
      have HPV := Lib.hid hpv
      have HFV := Lib.hid hfv
      clear htri hpv hfv hPV
      have HX := Aside0.mk (HFab.out w4 HB.out)
      go_wp2_with fail
      refine HX.out.mono ?_
      rintro e w5 ⟨rfl, hb⟩
      clear HX HFab
      have HG_ := Aside0.mk ((hb.block _ (blk_lt HG.out)).trans HG.out)
      have HB_ := Aside0.mk (below_step HB.out hb)
      have HCL_ := Aside0.mk (Kd.C_below HCL.out hb)
      clear q0 q1 q2 HG HB HCL hb
      have HG := HG_
      have HB := HB_
      have HCL := HCL_
      clear HG_ HB_ HCL_
      have q0 : w5.cell? ⟨w.heap.size, 0, none⟩ = some (.slice A0_0 nE c0_0) := (blk_cell HG.out 0).trans rfl
      have q1 : w5.cell? ⟨w.heap.size, 1, none⟩ = some (.slice A0_1 nL c0_1) := (blk_cell HG.out 1).trans rfl
      have q2 : w5.cell? ⟨w.heap.size, 2, none⟩ = some s2 := (blk_cell HG.out 2).trans rfl
      have HX := Aside0.mk (HFbc.out w5 HB.out)
      go_wp2_with fail
      refine HX.out.mono ?_
      rintro e w6 ⟨rfl, hb⟩
      clear HX HFbc
      have HG_ := Aside0.mk ((hb.block _ (blk_lt HG.out)).trans HG.out)
      have HB_ := Aside0.mk (below_step HB.out hb)
      have HCL_ := Aside0.mk (Kd.C_below HCL.out hb)
      clear q0 q1 q2 HG HB HCL hb
      have HG := HG_
      have HB := HB_
      have HCL := HCL_
      clear HG_ HB_ HCL_
      have q0 : w6.cell? ⟨w.heap.size, 0, none⟩ = some (.slice A0_0 nE c0_0) := (blk_cell HG.out 0).trans rfl
      have q1 : w6.cell? ⟨w.heap.size, 1, none⟩ = some (.slice A0_1 nL c0_1) := (blk_cell HG.out 1).trans rfl
      have q2 : w6.cell? ⟨w.heap.size, 2, none⟩ = some s2 := (blk_cell HG.out 2).trans rfl
      have HX := Aside0.mk (HFac.out w6 HB.out)
      go_wp2_with fail
      refine HX.out.mono ?_
      rintro e w7 ⟨rfl, hb⟩
      clear HX HFac
      have HG_ := Aside0.mk ((hb.block _ (blk_lt HG.out)).trans HG.out)
      have HB_ := Aside0.mk (below_step HB.out hb)
      have HCL_ := Aside0.mk (Kd.C_below HCL.out hb)
      clear q0 q1 q2 HG HB HCL hb
      have HG := HG_
      have HB := HB_
      have HCL := HCL_
      clear HG_ HB_ HCL_
      have q0 : w7.cell? ⟨w.heap.size, 0, none⟩ = some (.slice A0_0 nE c0_0) := (blk_cell HG.out 0).trans rfl
      have q1 : w7.cell? ⟨w.heap.size, 1, none⟩ = some (.slice A0_1 nL c0_1) := (blk_cell HG.out 1).trans rfl
      have q2 : w7.cell? ⟨w.heap.size, 2, none⟩ = some s2 := (blk_cell HG.out 2).trans rfl
      have HX := Aside0.mk (HFba.out w7 HB.out)
      go_wp2_with fail
      refine HX.out.mono ?_
      rintro e w8 ⟨rfl, hb⟩
      clear HX HFba
      have HG_ := Aside0.mk ((hb.block _ (blk_lt HG.out)).trans HG.out)
      have HB_ := Aside0.mk (below_step HB.out hb)
      have HCL_ := Aside0.mk (Kd.C_below HCL.out hb)
      clear q0 q1 q2 HG HB HCL hb
      have HG := HG_
      have HB := HB_
      have HCL := HCL_
      clear HG_ HB_ HCL_
      have q0 : w8.cell? ⟨w.heap.size, 0, none⟩ = some (.slice A0_0 nE c0_0) := (blk_cell HG.out 0).trans rfl
      have q1 : w8.cell? ⟨w.heap.size, 1, none⟩ = some (.slice A0_1 nL c0_1) := (blk_cell HG.out 1).trans rfl
      have q2 : w8.cell? ⟨w.heap.size, 2, none⟩ = some s2 := (blk_cell HG.out 2).trans rfl
      have bxx : (x == x) = true := beq_self_eq_true x
      cases xs with
      | false =>
        have hl : l = [] := by
          rcases HPV.out with ⟨n, _, h⟩ | ⟨_, h⟩
          · cases h
          · exact (Prod.mk.inj h).1
        subst hl
        have HX := Aside0.mk (HAL.out w8)
        go_wp2_with fail
        refine HX.out.mono ?_
        rintro e w9 ⟨rfl, hb⟩
        have HB9 := Aside0.mk (below_step HB.out hb)
        clear hb HX
        go_wp2
        go_ret
        exact ⟨rfl, HB9.out⟩
      | true =>
        have hex : ∃ n : Nat, isD l0_1 (rd l0_0 a) (rd l0_0 b) n ∧ l = pathZ l0_1 (rd l0_0 b) n (rd l0_0 a) := by
          rcases HPV.out with ⟨n, hn, h⟩ | ⟨_, h⟩
          · exact ⟨n, hn, (Prod.mk.inj h).1⟩
          · cases h
        obtain ⟨n, hD, hl⟩ := hex
        have hlen : l.length = n + 1 := by rw [hl, pathZ_len]
        have hx : x = (n : Int) := by
          have := (Prod.mk.inj HFV.out).1
          rw [this, hlen]
          omega
        subst hx
        have hnL := isD_le hD
        rw [HNL.out] at hnL
        have HD := Lib.hid hD
        have HL := Lib.hid hl
        obtain ⟨nl, hnl⟩ : ∃ nl, n + 1 = nl := ⟨_, rfl⟩
        have HLEN := Lib.hid (hlen.trans hnl)
        rw [hlen, hnl] at HCL hc10
        obtain ⟨va, hva⟩ : ∃ va, rd l0_0 a = va := ⟨_, rfl⟩
        obtain ⟨vb, hvb⟩ : ∃ vb, rd l0_0 b = vb := ⟨_, rfl⟩
        rw [hva, hvb] at HD HL
        have HVA := Lib.hid hva
        have HVB := Lib.hid hvb
        have hlw : l.length = nl := hlen.trans hnl
        clear hD hl hlen hva hvb HPV HFV
        cases so with
        | false =>
          rw [hlw]
          clear hlw
          go_wp2_with fail
          clear q0 q1 q2
          go_loopg [20, 21, 135] nl (fun gg _ _ s135 wr => ∃ j : Nat, s135 = .int .i64 j ∧ j ≤ nl ∧ nl - j ≤ gg ∧ Aside0 (Below w8.heap.size w8 wr))
          case atStart => exact ⟨0, rfl, by omega, by omega, ⟨Below.refl _ _⟩⟩
          case round =>
            obtain ⟨j, rfl, hj, hgj, HBZ⟩ := hrel
            have hgz := (HBZ.out.block _ (blk_lt HG.out)).trans HG.out
            have q0 : wr.cell? ⟨w.heap.size, 0, none⟩ = some (.slice A0_0 nE c0_0) := (blk_cell hgz 0).trans rfl
            have q1 : wr.cell? ⟨w.heap.size, 1, none⟩ = some (.slice A0_1 nL c0_1) := (blk_cell hgz 1).trans rfl
            have q2 : wr.cell? ⟨w.heap.size, 2, none⟩ = some s2 := (blk_cell hgz 2).trans rfl
            have HQ0 := Lib.hid q0
            have HQ1 := Lib.hid q1
            have HQ2 := Lib.hid q2
            have HCLz := Aside0.mk (Kd.C_below HCL.out HBZ.out)
            by_cases hlt : j < nl
            · have hltz : (j : Int) < (nl : Int) := by omega
              obtain ⟨adL, eL, hy0⟩ := Kd.at_int HCLz.out (j : Int) (by omega) (by first | omega | (rw [HLEN.out]; omega))
              cases eL
              rw [Int.toNat_natCast] at hy0
              have hdj : l[j]? = some (rd l (j : Int)) := by
                show l[j]? = some (l.getD (j : Int).toNat 0)
                rw [Int.toNat_natCast, List.getD_eq_getElem?_getD, List.getElem?_eq_getElem (by rw [HLEN.out]; exact hlt)]
                rfl
              obtain ⟨d, hd⟩ : ∃ d, rd l (j : Int) = d := ⟨_, rfl⟩
              rw [hd] at hy0 hdj
              clear hd
              by_cases hj0 : j = 0
              · subst hj0
                have hy1 : wr.cell? adL = some (.int .i64 d) := by
                  have h_ : wr.cell? (adL.add 0) = some (.int .i64 d) := hy0
                  simpa [Addr.add] using h_
                have hn0 : ¬ (0 : Int) < 0 := by omega
                clear hgz HQ0 HQ1 HQ2
                go_wp2_with fail
                go_quiet (fail)
                go_wp2_with fail
                go_roundg (nl - 1)
                case measure => omega
                case rel => exact ⟨1, by go_num, by omega, Nat.le_refl _, ⟨pw_below_drewN HBZ.out _⟩⟩
              · have hp0 : (0 : Int) < (j : Int) := by omega
                have hdt : decide ((0 : Int) < (j : Int)) = true := decide_eq_true hp0
                have hpn : 0 < j := by omega
                have hdn : decide (0 < j) = true := decide_eq_true hpn
                have hdec : IntKind.i64.wrap ((j : Int) - 1) = ((j - 1 : Nat) : Int) := by rw [IntWalk.i64_in _ (by omega)]; omega
                have hz0 : (0 : Int) ≤ ((j - 1 : Nat) : Int) := by omega
                have hz1 : ((j - 1 : Nat) : Int) < (nl : Int) := by omega
                obtain ⟨_, eL, hu0⟩ := Kd.at_int HCLz.out ((j - 1 : Nat) : Int) (by omega) (by first | omega | (rw [HLEN.out]; omega))
                cases eL
                rw [Int.toNat_natCast] at hu0
                have hdu : l[j - 1]? = some (rd l ((j - 1 : Nat) : Int)) := by
                  show l[j - 1]? = some (l.getD ((j - 1 : Nat) : Int).toNat 0)
                  rw [Int.toNat_natCast, List.getD_eq_getElem?_getD, List.getElem?_eq_getElem (by rw [HLEN.out]; omega)]
                  rfl
                obtain ⟨u, hu⟩ : ∃ u, rd l ((j - 1 : Nat) : Int) = u := ⟨_, rfl⟩
                rw [hu] at hu0 hdu
                clear hu
                have hnear : (nearL l0_1 u).contains d = true := by
                  rw [List.contains_iff_mem, nearL_mem]
                  rw [HL.out] at hdu hdj
                  exact pathZ_step HD.out (j - 1) u d hdu (by rw [show j - 1 + 1 = j by omega]; exact hdj)
                obtain ⟨K3, hK3⟩ := Ev.rounds (in_ev (nearL l0_1 u) (by have := near_len l0_1 u; rw [HNL.out] at this; omega) d)
                rw [hnear] at hK3
                have HK3 := Lib.hid hK3
                have HNX := Aside0.mk (fun (W : World) (hb : Below wr.heap.size wr W) => HNR.out W (below_step (below_step HB.out HBZ.out) hb) u)
                have HBD := Aside0.mk (below_drew (Below.refl wr.heap.size wr))
                have HCD := Aside0.mk (show (wr.drew.cell? ⟨w.heap.size, 0, none⟩ = some (.slice A0_0 nE c0_0) ∧ wr.drew.cell? ⟨w.heap.size, 1, none⟩ = some (.slice A0_1 nL c0_1) ∧ wr.drew.cell? ⟨w.heap.size, 2, none⟩ = some s2) ∧ wr.drew.cell? (adL.add (j - 1)) = some (.int .i64 u) from ⟨⟨q0, q1, q2⟩, hu0⟩)
                have HKEEP := Aside0.mk (fun (W : World) (hb : Below wr.heap.size wr W) => (show (W.cell? ⟨w.heap.size, 0, none⟩ = some (.slice A0_0 nE c0_0) ∧ W.cell? ⟨w.heap.size, 1, none⟩ = some (.slice A0_1 nL c0_1) ∧ W.cell? ⟨w.heap.size, 2, none⟩ = some s2) ∧ W.cell? (adL.add (j - 1)) = some (.int .i64 u) from ⟨⟨pw_cell_below hb HQ0.out, pw_cell_below hb HQ1.out, pw_cell_below hb HQ2.out⟩, pw_cell_below hb hu0⟩))
                clear q0 q1 q2 hdu hdj hnear hK3 hgz HQ0 HQ1 HQ2
                go_wp2_with fail
                go_region_held3 (fun w' => Below wr.heap.size wr w' ∧ (w'.cell? ⟨w.heap.size, 0, none⟩ = some (.slice A0_0 nE c0_0) ∧ w'.cell? ⟨w.heap.size, 1, none⟩ = some (.slice A0_1 nL c0_1) ∧ w'.cell? ⟨w.heap.size, 2, none⟩ = some s2) ∧ w'.cell? (adL.add (j - 1)) = some (.int .i64 u))
                  (first | with_reducible exact ⟨HBW.out, HKEEP.out _ HBW.out⟩ | with_reducible exact ⟨HBD.out, HCD.out⟩)
                  (first
                    | (go_at_call 43; with_reducible refine (HNX.out _ HBD.out).mono ?_; rintro e w9 ⟨vN, rfl, ho9, hb9⟩; obtain ⟨AN, cN, rfl⟩ := Kd.R_slice ho9; have HBW := Aside0.mk (below_step HBD.out hb9); have HIN := Aside0.mk (orielref12_In.calls K3 AN cN _ d true w9 (Kd.R_reads' ho9).2.2 (Kd.R_reads' ho9).2.1 HK3.out); clear ho9 hb9)
                    | (go_at_call 34; with_reducible refine HIN.out.mono ?_; rintro e w10 ⟨rfl, hd10⟩; have HBW2 := HBW; clear HBW; have HBW := Aside0.mk (below_step HBW2.out hd10.below); clear hd10 HBW2))
                all_goals
                  have HBN := Aside0.mk (below_step HBZ.out HBW.out)
                  clear HBW HBD HCD HKEEP HNX
                  go_wp2_with fail
                  go_roundg (nl - (j + 1))
                  case measure => omega
                  case rel => exact ⟨j + 1, by go_num, by omega, Nat.le_refl _, HBN⟩
            · have hltz : ¬ (j : Int) < (nl : Int) := by omega
              have hl0 : l[0]? = some va := by rw [HL.out]; exact pathZ_head _ _ _ _
              have hln : l[n]? = some vb := by rw [HL.out]; exact pathZ_last HD.out
              have hr0 : rd l 0 = va := by
                show l.getD 0 0 = va
                rw [List.getD_eq_getElem?_getD, hl0]
                rfl
              have hrn : rd l (n : Int) = vb := by
                show l.getD (n : Int).toNat 0 = vb
                rw [Int.toNat_natCast, List.getD_eq_getElem?_getD, hln]
                rfl
              obtain ⟨adL, eL, hy0⟩ := Kd.at_int HCLz.out 0 (by omega) (by first | omega | (rw [HLEN.out]; omega))
              cases eL
              obtain ⟨_, eL, hyn⟩ := Kd.at_int HCLz.out (n : Int) (by omega) (by first | omega | (rw [HLEN.out]; omega))
              cases eL
              rw [hr0] at hy0
              rw [hrn, Int.toNat_natCast] at hyn
              have hy1 : wr.cell? adL = some (.int .i64 va) := by
                have h_ : wr.cell? (adL.add 0) = some (.int .i64 va) := hy0
                simpa [Addr.add] using h_
              obtain ⟨adE, eE, hxa⟩ := Kd.at_int (Kd.C_below HC0.out (below_step HB.out HBZ.out)) a m1 (by rw [HNE.out]; exact m1')
              cases eE
              obtain ⟨_, eE, hxb⟩ := Kd.at_int (Kd.C_below HC0.out (below_step HB.out HBZ.out)) b m2 (by rw [HNE.out]; exact m2')
              cases eE
              rw [HVA.out] at hxa
              rw [HVB.out] at hxb
              have hw1 : IntKind.i64.wrap ((n : Int) + 1) = (nl : Int) := by rw [IntWalk.i64_in _ (by omega)]; omega
              have hz0 : (0 : Int) ≤ (n : Int) := by omega
              have hz1 : (n : Int) < (nl : Int) := by omega
              have hz2 : (0 : Int) < (nl : Int) := by omega
              have hz3 : 0 < nl := by omega
              have hz4 : decide (0 < nl) = true := decide_eq_true hz3
              have hz5 : decide ((0 : Int) < (nl : Int)) = true := decide_eq_true hz2
              have bn : ((nl : Int) == (nl : Int)) = true := beq_self_eq_true _
              have ba : (va == va) = true := beq_self_eq_true _
              have bb : (vb == vb) = true := beq_self_eq_true _
              have HBD := Aside0.mk (below_drew (Below.refl wr.heap.size wr))
              have HCD := Aside0.mk (show (wr.drew.cell? ⟨w.heap.size, 0, none⟩ = some (.slice (some adE) nE c0_0) ∧ wr.drew.cell? ⟨w.heap.size, 1, none⟩ = some (.slice A0_1 nL c0_1) ∧ wr.drew.cell? ⟨w.heap.size, 2, none⟩ = some s2) ∧ (wr.drew.cell? adL = some (.int .i64 va) ∧ wr.drew.cell? (adL.add n) = some (.int .i64 vb)) ∧ (wr.drew.cell? (adE.add a.toNat) = some (.int .i64 va) ∧ wr.drew.cell? (adE.add b.toNat) = some (.int .i64 vb)) from ⟨⟨q0, q1, q2⟩, ⟨hy1, hyn⟩, hxa, hxb⟩)
              have HKEEP := Aside0.mk (fun (W : World) (hb : Below wr.heap.size wr W) => (show (W.cell? ⟨w.heap.size, 0, none⟩ = some (.slice (some adE) nE c0_0) ∧ W.cell? ⟨w.heap.size, 1, none⟩ = some (.slice A0_1 nL c0_1) ∧ W.cell? ⟨w.heap.size, 2, none⟩ = some s2) ∧ (W.cell? adL = some (.int .i64 va) ∧ W.cell? (adL.add n) = some (.int .i64 vb)) ∧ (W.cell? (adE.add a.toNat) = some (.int .i64 va) ∧ W.cell? (adE.add b.toNat) = some (.int .i64 vb)) from ⟨⟨pw_cell_below hb HQ0.out, pw_cell_below hb HQ1.out, pw_cell_below hb HQ2.out⟩, ⟨pw_cell_below hb hy1, pw_cell_below hb hyn⟩, pw_cell_below hb hxa, pw_cell_below hb hxb⟩))
              clear q0 q1 q2 hgz HQ0 HQ1 HQ2 hl0 hln hr0 hrn hy0 hy1 hyn hxa hxb
              go_wp2_with fail
              go_region_held3 (fun w' => Below wr.heap.size wr w' ∧ (w'.cell? ⟨w.heap.size, 0, none⟩ = some (.slice (some adE) nE c0_0) ∧ w'.cell? ⟨w.heap.size, 1, none⟩ = some (.slice A0_1 nL c0_1) ∧ w'.cell? ⟨w.heap.size, 2, none⟩ = some s2) ∧ (w'.cell? adL = some (.int .i64 va) ∧ w'.cell? (adL.add n) = some (.int .i64 vb)) ∧ (w'.cell? (adE.add a.toNat) = some (.int .i64 va) ∧ w'.cell? (adE.add b.toNat) = some (.int .i64 vb)))
                (first | with_reducible exact ⟨HBW.out, HKEEP.out _ HBW.out⟩ | with_reducible exact ⟨HBD.out, HCD.out⟩)
                (first | (go_at_call 39; with_reducible refine (HAL.out _).mono ?_; rintro e w9 ⟨rfl, hb9⟩; have HBW := Aside0.mk (below_step HBD.out hb9); clear hb9) | fail)
              all_goals
                go_wp2_with fail
                go_ret
                exact ⟨rfl, below_step (below_step HB.out HBZ.out) HBW.out⟩
        | true =>
          obtain ⟨rfl, hzz⟩ : true = to_ ∧ z ≤ (n : Int) + y := by
            obtain ⟨h1, h2⟩ := HTRI.out rfl rfl
            exact ⟨h1.symm, h2⟩
          have hzw : IntKind.i64.wrap ((n : Int) + y) = (n : Int) + y := IntWalk.i64_in _ (by omega)
          have hzn : ¬ ((n : Int) + y < z) := by omega
          have hzd : decide ((n : Int) + y < z) = false := decide_eq_false hzn
          rw [hlw]
          clear hlw
          go_wp2_with fail
          clear q0 q1 q2
          go_loopg [20, 21, 135] nl (fun gg _ _ s135 wr => ∃ j : Nat, s135 = .int .i64 j ∧ j ≤ nl ∧ nl - j ≤ gg ∧ Aside0 (Below w8.heap.size w8 wr))
          case atStart => exact ⟨0, rfl, by omega, by omega, ⟨Below.refl _ _⟩⟩
          case round =>
            obtain ⟨j, rfl, hj, hgj, HBZ⟩ := hrel
            have hgz := (HBZ.out.block _ (blk_lt HG.out)).trans HG.out
            have q0 : wr.cell? ⟨w.heap.size, 0, none⟩ = some (.slice A0_0 nE c0_0) := (blk_cell hgz 0).trans rfl
            have q1 : wr.cell? ⟨w.heap.size, 1, none⟩ = some (.slice A0_1 nL c0_1) := (blk_cell hgz 1).trans rfl
            have q2 : wr.cell? ⟨w.heap.size, 2, none⟩ = some s2 := (blk_cell hgz 2).trans rfl
            have HQ0 := Lib.hid q0
            have HQ1 := Lib.hid q1
            have HQ2 := Lib.hid q2
            have HCLz := Aside0.mk (Kd.C_below HCL.out HBZ.out)
            by_cases hlt : j < nl
            · have hltz : (j : Int) < (nl : Int) := by omega
              obtain ⟨adL, eL, hy0⟩ := Kd.at_int HCLz.out (j : Int) (by omega) (by first | omega | (rw [HLEN.out]; omega))
              cases eL
              rw [Int.toNat_natCast] at hy0
              have hdj : l[j]? = some (rd l (j : Int)) := by
                show l[j]? = some (l.getD (j : Int).toNat 0)
                rw [Int.toNat_natCast, List.getD_eq_getElem?_getD, List.getElem?_eq_getElem (by rw [HLEN.out]; exact hlt)]
                rfl
              obtain ⟨d, hd⟩ : ∃ d, rd l (j : Int) = d := ⟨_, rfl⟩
              rw [hd] at hy0 hdj
              clear hd
              by_cases hj0 : j = 0
              · subst hj0
                have hy1 : wr.cell? adL = some (.int .i64 d) := by
                  have h_ : wr.cell? (adL.add 0) = some (.int .i64 d) := hy0
                  simpa [Addr.add] using h_
                have hn0 : ¬ (0 : Int) < 0 := by omega
                clear hgz HQ0 HQ1 HQ2
                go_wp2_with fail
                go_quiet (fail)
                go_wp2_with fail
                go_roundg (nl - 1)
                case measure => omega
                case rel => exact ⟨1, by go_num, by omega, Nat.le_refl _, ⟨pw_below_drewN HBZ.out _⟩⟩
              · have hp0 : (0 : Int) < (j : Int) := by omega
                have hdt : decide ((0 : Int) < (j : Int)) = true := decide_eq_true hp0
                have hpn : 0 < j := by omega
                have hdn : decide (0 < j) = true := decide_eq_true hpn
                have hdec : IntKind.i64.wrap ((j : Int) - 1) = ((j - 1 : Nat) : Int) := by rw [IntWalk.i64_in _ (by omega)]; omega
                have hz0 : (0 : Int) ≤ ((j - 1 : Nat) : Int) := by omega
                have hz1 : ((j - 1 : Nat) : Int) < (nl : Int) := by omega
                obtain ⟨_, eL, hu0⟩ := Kd.at_int HCLz.out ((j - 1 : Nat) : Int) (by omega) (by first | omega | (rw [HLEN.out]; omega))
                cases eL
                rw [Int.toNat_natCast] at hu0
                have hdu : l[j - 1]? = some (rd l ((j - 1 : Nat) : Int)) := by
                  show l[j - 1]? = some (l.getD ((j - 1 : Nat) : Int).toNat 0)
                  rw [Int.toNat_natCast, List.getD_eq_getElem?_getD, List.getElem?_eq_getElem (by rw [HLEN.out]; omega)]
                  rfl
                obtain ⟨u, hu⟩ : ∃ u, rd l ((j - 1 : Nat) : Int) = u := ⟨_, rfl⟩
                rw [hu] at hu0 hdu
                clear hu
                have hnear : (nearL l0_1 u).contains d = true := by
                  rw [List.contains_iff_mem, nearL_mem]
                  rw [HL.out] at hdu hdj
                  exact pathZ_step HD.out (j - 1) u d hdu (by rw [show j - 1 + 1 = j by omega]; exact hdj)
                obtain ⟨K3, hK3⟩ := Ev.rounds (in_ev (nearL l0_1 u) (by have := near_len l0_1 u; rw [HNL.out] at this; omega) d)
                rw [hnear] at hK3
                have HK3 := Lib.hid hK3
                have HNX := Aside0.mk (fun (W : World) (hb : Below wr.heap.size wr W) => HNR.out W (below_step (below_step HB.out HBZ.out) hb) u)
                have HBD := Aside0.mk (below_drew (Below.refl wr.heap.size wr))
                have HCD := Aside0.mk (show (wr.drew.cell? ⟨w.heap.size, 0, none⟩ = some (.slice A0_0 nE c0_0) ∧ wr.drew.cell? ⟨w.heap.size, 1, none⟩ = some (.slice A0_1 nL c0_1) ∧ wr.drew.cell? ⟨w.heap.size, 2, none⟩ = some s2) ∧ wr.drew.cell? (adL.add (j - 1)) = some (.int .i64 u) from ⟨⟨q0, q1, q2⟩, hu0⟩)
                have HKEEP := Aside0.mk (fun (W : World) (hb : Below wr.heap.size wr W) => (show (W.cell? ⟨w.heap.size, 0, none⟩ = some (.slice A0_0 nE c0_0) ∧ W.cell? ⟨w.heap.size, 1, none⟩ = some (.slice A0_1 nL c0_1) ∧ W.cell? ⟨w.heap.size, 2, none⟩ = some s2) ∧ W.cell? (adL.add (j - 1)) = some (.int .i64 u) from ⟨⟨pw_cell_below hb HQ0.out, pw_cell_below hb HQ1.out, pw_cell_below hb HQ2.out⟩, pw_cell_below hb hu0⟩))
                clear q0 q1 q2 hdu hdj hnear hK3 hgz HQ0 HQ1 HQ2
                go_wp2_with fail
                go_region_held3 (fun w' => Below wr.heap.size wr w' ∧ (w'.cell? ⟨w.heap.size, 0, none⟩ = some (.slice A0_0 nE c0_0) ∧ w'.cell? ⟨w.heap.size, 1, none⟩ = some (.slice A0_1 nL c0_1) ∧ w'.cell? ⟨w.heap.size, 2, none⟩ = some s2) ∧ w'.cell? (adL.add (j - 1)) = some (.int .i64 u))
                  (first | with_reducible exact ⟨HBW.out, HKEEP.out _ HBW.out⟩ | with_reducible exact ⟨HBD.out, HCD.out⟩)
                  (first
                    | (go_at_call 43; with_reducible refine (HNX.out _ HBD.out).mono ?_; rintro e w9 ⟨vN, rfl, ho9, hb9⟩; obtain ⟨AN, cN, rfl⟩ := Kd.R_slice ho9; have HBW := Aside0.mk (below_step HBD.out hb9); have HIN := Aside0.mk (orielref12_In.calls K3 AN cN _ d true w9 (Kd.R_reads' ho9).2.2 (Kd.R_reads' ho9).2.1 HK3.out); clear ho9 hb9)
                    | (go_at_call 34; with_reducible refine HIN.out.mono ?_; rintro e w10 ⟨rfl, hd10⟩; have HBW2 := HBW; clear HBW; have HBW := Aside0.mk (below_step HBW2.out hd10.below); clear hd10 HBW2))
                all_goals
                  have HBN := Aside0.mk (below_step HBZ.out HBW.out)
                  clear HBW HBD HCD HKEEP HNX
                  go_wp2_with fail
                  go_roundg (nl - (j + 1))
                  case measure => omega
                  case rel => exact ⟨j + 1, by go_num, by omega, Nat.le_refl _, HBN⟩
            · have hltz : ¬ (j : Int) < (nl : Int) := by omega
              have hl0 : l[0]? = some va := by rw [HL.out]; exact pathZ_head _ _ _ _
              have hln : l[n]? = some vb := by rw [HL.out]; exact pathZ_last HD.out
              have hr0 : rd l 0 = va := by
                show l.getD 0 0 = va
                rw [List.getD_eq_getElem?_getD, hl0]
                rfl
              have hrn : rd l (n : Int) = vb := by
                show l.getD (n : Int).toNat 0 = vb
                rw [Int.toNat_natCast, List.getD_eq_getElem?_getD, hln]
                rfl
              obtain ⟨adL, eL, hy0⟩ := Kd.at_int HCLz.out 0 (by omega) (by first | omega | (rw [HLEN.out]; omega))
              cases eL
              obtain ⟨_, eL, hyn⟩ := Kd.at_int HCLz.out (n : Int) (by omega) (by first | omega | (rw [HLEN.out]; omega))
              cases eL
              rw [hr0] at hy0
              rw [hrn, Int.toNat_natCast] at hyn
              have hy1 : wr.cell? adL = some (.int .i64 va) := by
                have h_ : wr.cell? (adL.add 0) = some (.int .i64 va) := hy0
                simpa [Addr.add] using h_
              obtain ⟨adE, eE, hxa⟩ := Kd.at_int (Kd.C_below HC0.out (below_step HB.out HBZ.out)) a m1 (by rw [HNE.out]; exact m1')
              cases eE
              obtain ⟨_, eE, hxb⟩ := Kd.at_int (Kd.C_below HC0.out (below_step HB.out HBZ.out)) b m2 (by rw [HNE.out]; exact m2')
              cases eE
              rw [HVA.out] at hxa
              rw [HVB.out] at hxb
              have hw1 : IntKind.i64.wrap ((n : Int) + 1) = (nl : Int) := by rw [IntWalk.i64_in _ (by omega)]; omega
              have hz0 : (0 : Int) ≤ (n : Int) := by omega
              have hz1 : (n : Int) < (nl : Int) := by omega
              have hz2 : (0 : Int) < (nl : Int) := by omega
              have hz3 : 0 < nl := by omega
              have hz4 : decide (0 < nl) = true := decide_eq_true hz3
              have hz5 : decide ((0 : Int) < (nl : Int)) = true := decide_eq_true hz2
              have bn : ((nl : Int) == (nl : Int)) = true := beq_self_eq_true _
              have ba : (va == va) = true := beq_self_eq_true _
              have bb : (vb == vb) = true := beq_self_eq_true _
              have HBD := Aside0.mk (below_drew (Below.refl wr.heap.size wr))
              have HCD := Aside0.mk (show (wr.drew.cell? ⟨w.heap.size, 0, none⟩ = some (.slice (some adE) nE c0_0) ∧ wr.drew.cell? ⟨w.heap.size, 1, none⟩ = some (.slice A0_1 nL c0_1) ∧ wr.drew.cell? ⟨w.heap.size, 2, none⟩ = some s2) ∧ (wr.drew.cell? adL = some (.int .i64 va) ∧ wr.drew.cell? (adL.add n) = some (.int .i64 vb)) ∧ (wr.drew.cell? (adE.add a.toNat) = some (.int .i64 va) ∧ wr.drew.cell? (adE.add b.toNat) = some (.int .i64 vb)) from ⟨⟨q0, q1, q2⟩, ⟨hy1, hyn⟩, hxa, hxb⟩)
              have HKEEP := Aside0.mk (fun (W : World) (hb : Below wr.heap.size wr W) => (show (W.cell? ⟨w.heap.size, 0, none⟩ = some (.slice (some adE) nE c0_0) ∧ W.cell? ⟨w.heap.size, 1, none⟩ = some (.slice A0_1 nL c0_1) ∧ W.cell? ⟨w.heap.size, 2, none⟩ = some s2) ∧ (W.cell? adL = some (.int .i64 va) ∧ W.cell? (adL.add n) = some (.int .i64 vb)) ∧ (W.cell? (adE.add a.toNat) = some (.int .i64 va) ∧ W.cell? (adE.add b.toNat) = some (.int .i64 vb)) from ⟨⟨pw_cell_below hb HQ0.out, pw_cell_below hb HQ1.out, pw_cell_below hb HQ2.out⟩, ⟨pw_cell_below hb hy1, pw_cell_below hb hyn⟩, pw_cell_below hb hxa, pw_cell_below hb hxb⟩))
              clear q0 q1 q2 hgz HQ0 HQ1 HQ2 hl0 hln hr0 hrn hy0 hy1 hyn hxa hxb
              go_wp2_with fail
              go_region_held3 (fun w' => Below wr.heap.size wr w' ∧ (w'.cell? ⟨w.heap.size, 0, none⟩ = some (.slice (some adE) nE c0_0) ∧ w'.cell? ⟨w.heap.size, 1, none⟩ = some (.slice A0_1 nL c0_1) ∧ w'.cell? ⟨w.heap.size, 2, none⟩ = some s2) ∧ (w'.cell? adL = some (.int .i64 va) ∧ w'.cell? (adL.add n) = some (.int .i64 vb)) ∧ (w'.cell? (adE.add a.toNat) = some (.int .i64 va) ∧ w'.cell? (adE.add b.toNat) = some (.int .i64 vb)))
                (first | with_reducible exact ⟨HBW.out, HKEEP.out _ HBW.out⟩ | with_reducible exact ⟨HBD.out, HCD.out⟩)
                (first | (go_at_call 39; with_reducible refine (HAL.out _).mono ?_; rintro e w9 ⟨rfl, hb9⟩; have HBW := Aside0.mk (below_step HBD.out hb9); clear hb9) | fail)
              all_goals
                go_wp2_with fail
                go_ret
                exact ⟨rfl, below_step (below_step HB.out HBZ.out) HBW.out⟩
    · clear hr0_0 hr0_1 hr0_2 hc0_0 hc0_1 hc0_2 hokE hokL
      generalize Value.slice A0_2 l0_2.length c0_2 = s2 at *
      obtain ⟨nE, hnE⟩ : ∃ nE, l0_0.length = nE := ⟨_, rfl⟩
      obtain ⟨nL, hnL⟩ : ∃ nL, l0_1.length = nL := ⟨_, rfl⟩
      rw [hnE, hnL] at hfew
      rw [hnE, hnL]
      clear hnE hnL
      have HB0 := Aside0.mk (below_alloc (Below.refl w.heap.size w) (.cells #[.slice A0_0 nE c0_0, .slice A0_1 nL c0_1, s2] 51))
      have HOUT : ∀ W, Below w.heap.size w W → Calls Try.prog 39 #[] W (fun e w' => e = .returned (.bool true) ∧ Below w.heap.size w w') := fun W hb => (HAL.out W).mono (fun e w' ⟨h1, h2⟩ => ⟨h1, below_step hb h2⟩)
      have HX := Aside0.mk HOUT
      clear HOUT
      by_cases h60 : 60 < nE
      · have e1 : (60 : Int) < (nE : Int) := by omega
        clear hfew
        go_enter Try.func12, Try.ntmps12
        go_wp2_with fail
        refine (HX.out _ HB0.out).mono ?_
        rintro e w2 ⟨rfl, hb⟩
        go_wp2
        go_ret
        exact ⟨rfl, hb⟩
      · have e1 : ¬ (60 : Int) < (nE : Int) := by omega
        by_cases h40 : 40 < nL
        · have e2 : (40 : Int) < (nL : Int) := by omega
          clear hfew
          go_enter Try.func12, Try.ntmps12
          go_wp2_with fail
          refine (HX.out _ HB0.out).mono ?_
          rintro e w2 ⟨rfl, hb⟩
          go_wp2
          go_ret
          exact ⟨rfl, hb⟩
        · have e2 : ¬ (40 : Int) < (nL : Int) := by omega
          have h0 : nE = 0 := by omega
          subst h0
          clear hfew
          go_enter Try.func12, Try.ntmps12
          go_wp2_with fail
          refine (HX.out _ HB0.out).mono ?_
          rintro e w2 ⟨rfl, hb⟩
          go_wp2
          go_ret
          exact ⟨rfl, hb⟩
  · rw [if_neg hall] at h
    cases h
end Go.Proofs.Ythgjieigpfcekaa.QW
