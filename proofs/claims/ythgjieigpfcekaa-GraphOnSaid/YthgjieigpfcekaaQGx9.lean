-- Laid by this claim's own program (mprint.py in the repo).
import Derived.Test.YthgjieigpfcekaaQGx0
import Derived.Test.YthgjieigpfcekaaQGx3
import Derived.Test.YthgjieigpfcekaaQGx4
import Derived.Test.YthgjieigpfcekaaQGx5
import Derived.Test.YthgjieigpfcekaaQGx6
namespace Go.Proofs.Ythgjieigpfcekaa.QG
open Go.RowKit Go.Proofs.YthgjieigpfcekaaW.PrintWords Go.Proofs.YthgjieigpfcekaaW.PrintLast Go.Proofs.YthgjieigpfcekaaW.PrintMore
attribute [local go_sem] max2_int min2_int max_two min_two max_three min_three max_four min_four   -- for this text's walks alone
set_option linter.unusedVariables false
set_option linter.unusedSimpArgs false

/-! ### orielref15_Right: function 31 -/
theorem decB_iff (l : List S92) (o sp : Int) : decB l o sp = true ↔ (0 ≤ o ∧ o < (l.length : Int)) ∧ (rd_T92 l o).f4 = true ∧ (rd_T92 l o).f3 = sp := by
  unfold decB inB
  simp
theorem decB_not (l : List S92) (o sp : Int) (h : ¬ ((0 ≤ o ∧ o < (l.length : Int)) ∧ (rd_T92 l o).f4 = true ∧ (rd_T92 l o).f3 = sp)) : decB l o sp = false := by
  rw [← Bool.not_eq_true, decB_iff]
  exact h
def okP (l : List S92) (p : S34) : Bool := decide (0 ≤ p.f0) && (decide (p.f1 < (l.length : Int)) && (decide (p.f0 < p.f1) && ((rd_T92 l p.f0).f4 && ((rd_T92 l p.f1).f4 && decide ((rd_T92 l p.f0).f3 = (rd_T92 l p.f1).f3)))))
def aheadP (q : Option S34) (p : S34) : Bool := match q with
  | some q => ltP q p
  | none => true
def refGo (l : List S92) : Option S34 → List S34 → Bool
  | _, [] => true
  | q, p :: r => okP l p && (aheadP q p && refGo l (some p) r)
def prevP (L : List S34) (n : Nat) : Option S34 := if n = 0 then none else some (rd_T34 L ((n - 1 : Nat) : Int))
def orielref15_Right.f (E : List Int) (L : List S34) (V : List Int) (l : List S92) : Option Bool :=
  if E.length = l.length ∧ V.length = l.length then some (rightGo E V l l 0 && refGo l none L) else some false
set_option maxHeartbeats 4000000 in
set_option maxRecDepth 100000 in
theorem orielref15_Right.calls (A0_0 : Option Addr) (c0_0 : Nat) (l0_0 : List Int) (A0_1 : Option Addr) (c0_1 : Nat) (l0_1 : List S34) (A0_2 : Option Addr) (c0_2 : Nat) (l0_2 : List Int) (A1 : Option Addr) (c1 : Nat) (l1 : List (S92)) (r : Bool) (w : World)
    (hr0_0 : Kd.C (Kd.int .i64) w A0_0 l0_0.length l0_0) (hc0_0 : l0_0.length ≤ c0_0) (hr0_1 : Kd.C k34 w A0_1 l0_1.length l0_1) (hc0_1 : l0_1.length ≤ c0_1) (hr0_2 : Kd.C (Kd.int .i64) w A0_2 l0_2.length l0_2) (hc0_2 : l0_2.length ≤ c0_2) (hr1 : Kd.C k92 w A1 l1.length l1) (hc1 : l1.length ≤ c1) (h : orielref15_Right.f l0_0 l0_1 l0_2 l1 = some r) :
    Calls Try.prog 31 #[.agg #[.slice A0_0 l0_0.length c0_0, .slice A0_1 l0_1.length c0_1, .slice A0_2 l0_2.length c0_2], .slice A1 l1.length c1] w fun e w' => e = .returned (.bool r) ∧ Below w.heap.size w w' := by
  have hu51 := Try.underlying51
  have hu34 := Try.underlying34
  have hu22 := Try.underlying22
  have hu52 := Try.underlying52
  have hu92 := Try.underlying92
  have HC0 := Aside0.mk hr0_0
  have HC1 := Aside0.mk hr0_1
  have HC2 := Aside0.mk hr0_2
  have HC3 := Aside0.mk hr1
  have hmx := Kd.C_max hr1
  have hmx2 := Kd.C_max hr0_1
  clear hr0_0 hr0_1 hr0_2 hc0_2 hc0_0 hr1 hc1 hc0_1
  unfold orielref15_Right.f at h
  obtain ⟨W2, hW2⟩ : ∃ W2, w.alloc (.cells #[.slice A0_0 l0_0.length c0_0, .slice A0_1 l0_1.length c0_1, .slice A0_2 l0_2.length c0_2] 51) = W2 := ⟨_, rfl⟩
  have HW2 := Lib.hid hW2
  have HB2 := Aside0.mk (show Below w.heap.size w W2 by rw [← hW2]; exact below_alloc (Below.refl _ _) _)
  have hk1 : W2.heap[w.heap.size]? = some (.cells #[.slice A0_0 l0_0.length c0_0, .slice A0_1 l0_1.length c0_1, .slice A0_2 l0_2.length c0_2] 51 (0, 0)) := by rw [← hW2]; exact blk_new w _
  have hlt2 := blk_lt hk1
  have hcells : ∀ wr, Below W2.heap.size W2 wr → wr.cell? ⟨w.heap.size, 0, none⟩ = some (.slice A0_0 l0_0.length c0_0) ∧ wr.cell? ⟨w.heap.size, 1, none⟩ = some (.slice A0_1 l0_1.length c0_1) ∧ wr.cell? ⟨w.heap.size, 2, none⟩ = some (.slice A0_2 l0_2.length c0_2) := by
    intro wr hb
    have h1 := (hb.block w.heap.size (by omega)).trans hk1
    refine ⟨?_, ?_, ?_⟩ <;> simp [World.cell?, h1]
  have HCELL := Lib.hid hcells
  obtain ⟨q0, q1, q2⟩ := hcells W2 (Below.refl _ _)
  clear hcells hW2 hk1
  obtain ⟨n, hn⟩ : ∃ n, l1.length = n := ⟨_, rfl⟩
  have HN := Lib.hid hn
  by_cases hlen : l0_0.length = n
  · by_cases hlen2 : l0_2.length = n
    · rw [hn, if_pos ⟨hlen, hlen2⟩] at h
      rw [hlen] at q0 HCELL HW2 ⊢
      rw [hlen2] at q2 HCELL HW2 ⊢
      rw [hn] at hmx ⊢
      have HN0 := Lib.hid hlen
      have HN2 := Lib.hid hlen2
      clear hn hlen hlen2
      have HH := Lib.hid (Option.some.inj h)
      have HR0 := Aside0.mk (show rightGo l0_0 l0_2 l1 (l1.drop 0) ((0 : Nat) : Int) = rightGo l0_0 l0_2 l1 l1 0 from rfl)
      obtain ⟨RG, hRG⟩ : ∃ RG, rightGo l0_0 l0_2 l1 l1 0 = RG := ⟨_, rfl⟩
      rw [hRG] at HR0 HH
      clear h hRG
      go_enter Try.func31, Try.ntmps31
      go_wp2_with fail
      rw [HW2.out]
      clear q0 q1 q2
      go_loopg [6, 7] n (fun gg v6 _ wr => ∃ j : Nat, v6 = .int .i64 j ∧ j ≤ n ∧ n - j ≤ gg ∧ Aside0 (rightGo l0_0 l0_2 l1 (l1.drop j) (j : Int) = RG) ∧ Aside0 (Below W2.heap.size W2 wr))
      case atStart => exact ⟨0, by first | rfl | go_num, Nat.zero_le _, by omega, HR0, ⟨Below.refl _ _⟩⟩
      case round =>
        clear HR0
        obtain ⟨j, rfl, hj, hgj, HP, HB⟩ := hrel
        obtain ⟨q0, q1, q2⟩ := HCELL.out wr HB.out
        by_cases hlt : j < n
        · have hltz : (j : Int) < (n : Int) := by omega
          have hBw := below_then HB2.out HB2.out.size HB.out
          obtain ⟨ado, eado, -, -, -, ho3, ho4⟩ := at_T92 (Kd.C_below HC3.out hBw) (j : Int) (by omega) (by rw [HN.out]; omega)
          obtain ⟨ade, eade, he0⟩ := Kd.at_int (Kd.C_below HC0.out hBw) (j : Int) (by omega) (by rw [HN0.out]; omega)
          obtain ⟨adv, eadv, hv0⟩ := Kd.at_int (Kd.C_below HC2.out hBw) (j : Int) (by omega) (by rw [HN2.out]; omega)
          have HC3' := Aside0.mk (Kd.C_below HC3.out hBw)
          rw [Int.toNat_natCast] at ho3 ho4 he0 hv0
          have hdr := drop_occ l1 j (by rw [HN.out]; exact hlt)
          have hq := HP.out
          rw [hdr, rightGo] at hq
          have HQ := Aside0.mk hq
          clear hq hdr HP hBw
          generalize rd_T92 l1 (j : Int) = y at ho3 ho4 HQ
          obtain ⟨f0, f1, f2, f3, f4⟩ := y
          dsimp only at ho3 ho4
          obtain ⟨x, hx⟩ : ∃ x, rd l0_0 (j : Int) = x := ⟨_, rfl⟩
          obtain ⟨v, hv⟩ : ∃ v, rd l0_2 (j : Int) = v := ⟨_, rfl⟩
          rw [hx] at he0
          rw [hv] at hv0
          have hri : rightI l0_0 l0_2 l1 (j : Int) ⟨f0, f1, f2, f3, f4⟩ = (!(decB l1 x f3) || (f4 && (!(x == (j : Int)) || !(v == -1))) || decide (v < -1)) := by unfold rightI; rw [hx, hv]
          have HRI := Lib.hid hri
          cases eado
          cases eade
          cases eadv
          clear hx hv hri
          have HBAD : Hid (rightI l0_0 l0_2 l1 (j : Int) ⟨f0, f1, f2, f3, f4⟩ = true → r = false) := Lib.hid (fun hb => by
            have h1 := HQ.out
            rw [if_pos hb] at h1
            have h2 := HH.out
            rw [← h1, Bool.false_and] at h2
            exact h2.symm)
          have HGOOD : Hid (rightI l0_0 l0_2 l1 (j : Int) ⟨f0, f1, f2, f3, f4⟩ = false → rightGo l0_0 l0_2 l1 (l1.drop (j + 1)) ((j + 1 : Nat) : Int) = RG) := Lib.hid (fun hb => by
            have h1 := HQ.out
            rw [if_neg (by rw [hb]; simp)] at h1
            exact h1)
          clear HQ
          by_cases d0 : x < 0
          · have dd0 := decide_eq_true d0
            obtain rfl : r = false := HBAD.out (by rw [HRI.out, decB_not l1 x f3 (fun hh => by omega)]; rfl)
            clear HBAD HGOOD HRI
            go_wp2
            go_quiet (fail)
            go_wp2
            go_ret
            exact ⟨rfl, pw_below_drewN (below_then HB2.out HB2.out.size HB.out) _⟩
          · have dd0 := decide_eq_false d0
            have d0' : 0 ≤ x := by omega
            by_cases d1 : x ≥ (n : Int)
            · have dd1 := decide_eq_true d1
              obtain rfl : r = false := HBAD.out (by rw [HRI.out, decB_not l1 x f3 (fun hh => by have := hh.1.2; rw [HN.out] at this; omega)]; rfl)
              clear HBAD HGOOD HRI
              go_wp2
              go_quiet (fail)
              go_wp2
              go_ret
              exact ⟨rfl, pw_below_drewN (below_then HB2.out HB2.out.size HB.out) _⟩
            · have dd1 := decide_eq_false d1
              have d1' : x < (n : Int) := by omega
              obtain ⟨ado', eado', -, -, -, hz3, hz4⟩ := at_T92 HC3'.out x d0' (by rw [HN.out]; exact d1')
              cases eado'
              have hdi := decB_iff l1 x f3
              have hdn := decB_not l1 x f3
              rw [HN.out] at hdi hdn
              have HDI := Lib.hid hdi
              have HDN := Lib.hid hdn
              clear hdi hdn
              generalize (rd_T92 l1 x).f4 = z4 at *
              generalize (rd_T92 l1 x).f3 = z3 at *
              cases z4 with
              | false =>
                obtain rfl : r = false := HBAD.out (by rw [HRI.out, HDN.out (fun hh => by cases hh.2.1)]; rfl)
                clear HBAD HGOOD HRI
                go_wp2
                go_quiet (fail)
                go_wp2
                go_ret
                exact ⟨rfl, pw_below_drewN (below_then HB2.out HB2.out.size HB.out) _⟩
              | true =>
                by_cases d3 : z3 = f3
                · subst d3
                  have bd3 : (z3 == z3) = true := beq_self_eq_true _
                  have hdt := HDI.out.2 ⟨⟨d0', d1'⟩, rfl, rfl⟩
                  rw [hdt] at HRI
                  clear hdt
                  by_cases d4 : v < -1
                  · have dd4 := decide_eq_true d4
                    obtain rfl : r = false := HBAD.out (by rw [HRI.out, dd4]; simp)
                    clear HBAD HGOOD HRI
                    go_wp2
                    go_quiet (fail)
                    go_wp2
                    go_ret
                    exact ⟨rfl, pw_below_drewN (below_then HB2.out HB2.out.size HB.out) _⟩
                  · have dd4 := decide_eq_false d4
                    cases f4 with
                    | false =>
                      have HX := Aside0.mk (HGOOD.out (by rw [HRI.out, dd4]; rfl))
                      clear HBAD HGOOD HRI
                      go_wp2
                      go_quiet (fail)
                      go_wp2
                      go_roundg (n - (j + 1))
                      case measure => omega
                      case rel => exact ⟨j + 1, by go_num, by omega, Nat.le_refl _, HX, ⟨pw_below_drewN HB.out _⟩⟩
                    | true =>
                      by_cases d5 : x = (j : Int)
                      · subst d5
                        have bd5 : ((j : Int) == (j : Int)) = true := beq_self_eq_true _
                        by_cases d6 : v = -1
                        · subst d6
                          have HX := Aside0.mk (HGOOD.out (by rw [HRI.out, bd5]; rfl))
                          clear HBAD HGOOD HRI
                          go_wp2
                          go_quiet (fail)
                          go_wp2
                          go_roundg (n - (j + 1))
                          case measure => omega
                          case rel => exact ⟨j + 1, by go_num, by omega, Nat.le_refl _, HX, ⟨pw_below_drewN HB.out _⟩⟩
                        · have bd6 : (v == -1) = false := beq_eq_false_iff_ne.2 d6
                          obtain rfl : r = false := HBAD.out (by rw [HRI.out, bd5, bd6]; rfl)
                          clear HBAD HGOOD HRI
                          go_wp2
                          go_quiet (fail)
                          go_wp2
                          go_ret
                          exact ⟨rfl, pw_below_drewN (below_then HB2.out HB2.out.size HB.out) _⟩
                      · have bd5 : (x == (j : Int)) = false := beq_eq_false_iff_ne.2 d5
                        obtain rfl : r = false := HBAD.out (by rw [HRI.out, bd5]; rfl)
                        clear HBAD HGOOD HRI
                        go_wp2
                        go_quiet (fail)
                        go_wp2
                        go_ret
                        exact ⟨rfl, pw_below_drewN (below_then HB2.out HB2.out.size HB.out) _⟩
                · have bd3 : (z3 == f3) = false := beq_eq_false_iff_ne.2 d3
                  obtain rfl : r = false := HBAD.out (by rw [HRI.out, HDN.out (fun hh => d3 hh.2.2)]; rfl)
                  clear HBAD HGOOD HRI
                  go_wp2
                  go_quiet (fail)
                  go_wp2
                  go_ret
                  exact ⟨rfl, pw_below_drewN (below_then HB2.out HB2.out.size HB.out) _⟩
        · have hltz : ¬ (j : Int) < (n : Int) := by omega
          obtain rfl : n = j := by omega
          have hP := HP.out
          rw [List.drop_of_length_le (by rw [HN.out]; exact Nat.le_refl _)] at hP
          have hP1 : true = RG := hP
          subst hP1
          have hh := HH.out
          rw [Bool.true_and] at hh
          have HB4 := Aside0.mk HB.out
          clear hP HP HH HB
          have HR1 := Aside0.mk (show refGo l1 (prevP l0_1 0) (l0_1.drop 0) = r from hh)
          clear hh
          obtain ⟨nL, hnL⟩ : ∃ nL, l0_1.length = nL := ⟨_, rfl⟩
          rw [hnL] at q1 HCELL hmx2
          have HNL := Lib.hid hnL
          clear hnL
          go_wp2
          clear q0 q1 q2
          generalize wr = W4 at *
          go_loopg [8, 9] nL (fun gg v8 _ wz => ∃ i : Nat, v8 = .int .i64 i ∧ i ≤ nL ∧ nL - i ≤ gg ∧ Aside0 (refGo l1 (prevP l0_1 i) (l0_1.drop i) = r) ∧ Aside0 (Below W2.heap.size W2 wz))
          case atStart => exact ⟨0, by first | rfl | go_num, Nat.zero_le _, by omega, HR1, HB4⟩
          case round =>
            clear HR1 HB4
            obtain ⟨i, rfl, hi, hgi, HP, HB⟩ := hrel
            obtain ⟨q0, q1, q2⟩ := HCELL.out wr HB.out
            by_cases hlt4 : i < nL
            · have hltz : (i : Int) < (nL : Int) := by omega
              have hBw := below_then HB2.out HB2.out.size HB.out
              obtain ⟨ad1, ead1, hx0, hx1⟩ := at_T34 (Kd.C_below HC1.out hBw) (i : Int) (by omega) (by rw [HNL.out]; omega)
              rw [Int.toNat_natCast] at hx0 hx1
              have hdr := drop_at l0_1 i (by rw [HNL.out]; exact hlt4)
              have hq := HP.out
              rw [hdr, refGo] at hq
              have hnx : prevP l0_1 (i + 1) = some (rd_T34 l0_1 (i : Int)) := by unfold prevP; rw [if_neg (by omega), show i + 1 - 1 = i by omega]
              have HNX := Lib.hid hnx
              have HQ := Aside0.mk hq
              clear hq hdr HP hnx
              cases ead1
              obtain ⟨pp, hpp⟩ : ∃ pp, rd_T34 l0_1 (i : Int) = pp := ⟨_, rfl⟩
              rw [hpp] at hx0 hx1 HQ HNX
              clear hpp
              obtain ⟨a, b⟩ := pp
              dsimp only at hx0 hx1
              obtain ⟨W3, hW3⟩ : ∃ W3, wr.alloc (.cells #[.int .i64 a, .int .i64 b] 34) = W3 := ⟨_, rfl⟩
              have hb3 : Below W2.heap.size W2 W3 := by rw [← hW3]; exact below_alloc HB.out _
              have hbw3 := below_then HB2.out HB2.out.size hb3
              obtain ⟨q0', q1', q2'⟩ := HCELL.out W3 hb3
              have hblk : W3.heap[wr.heap.size]? = some (.cells #[.int .i64 a, .int .i64 b] 34 (0, 0)) := by rw [← hW3]; exact blk_new wr _
              have y0 : W3.cell? ⟨wr.heap.size, 0, none⟩ = some (.int .i64 a) := by unfold World.cell?; rw [hblk]; rfl
              have y1 : W3.cell? ⟨wr.heap.size, 1, none⟩ = some (.int .i64 b) := by unfold World.cell?; rw [hblk]; rfl
              have HW3 := Lib.hid hW3
              have HB3 := Aside0.mk hb3
              have HC3' := Aside0.mk (Kd.C_below HC3.out hbw3)
              have HC1' := Aside0.mk (Kd.C_below HC1.out hbw3)
              clear hW3 hb3 hbw3 hBw hblk
              have hok : okP l1 ⟨a, b⟩ = (decide (0 ≤ a) && (decide (b < (n : Int)) && (decide (a < b) && ((rd_T92 l1 a).f4 && ((rd_T92 l1 b).f4 && decide ((rd_T92 l1 a).f3 = (rd_T92 l1 b).f3)))))) := by unfold okP; rw [HN.out]
              have HOK := Lib.hid hok
              have HBAD : Hid (okP l1 ⟨a, b⟩ = false → r = false) := Lib.hid (fun hb => by
                have h1 := HQ.out
                rw [hb, Bool.false_and] at h1
                exact h1.symm)
              have HAHD : Hid (okP l1 ⟨a, b⟩ = true → (aheadP (prevP l0_1 i) ⟨a, b⟩ && refGo l1 (some ⟨a, b⟩) (l0_1.drop (i + 1))) = r) := Lib.hid (fun hb => by
                have h1 := HQ.out
                rw [hb, Bool.true_and] at h1
                exact h1)
              clear HQ hok
              by_cases d0 : a < 0
              · have dd0 := decide_eq_true d0
                obtain rfl : r = false := HBAD.out (by rw [HOK.out, decide_eq_false (by omega : ¬ 0 ≤ a)]; rfl)
                clear HBAD HAHD HOK
                go_wp2_with fail
                rw [HW3.out]
                go_quiet (fail)
                go_wp2
                go_ret
                exact ⟨rfl, pw_below_drewN (below_then HB2.out HB2.out.size HB3.out) _⟩
              · have dd0 := decide_eq_false d0
                have d0' : 0 ≤ a := by omega
                by_cases d1 : b ≥ (n : Int)
                · have dd1 := decide_eq_true d1
                  obtain rfl : r = false := HBAD.out (by rw [HOK.out, decide_eq_false (by omega : ¬ b < (n : Int))]; simp)
                  clear HBAD HAHD HOK
                  go_wp2_with fail
                  rw [HW3.out]
                  go_quiet (fail)
                  go_wp2
                  go_ret
                  exact ⟨rfl, pw_below_drewN (below_then HB2.out HB2.out.size HB3.out) _⟩
                · have dd1 := decide_eq_false d1
                  have d1' : b < (n : Int) := by omega
                  by_cases d2 : a ≥ b
                  · have dd2 := decide_eq_true d2
                    obtain rfl : r = false := HBAD.out (by rw [HOK.out, decide_eq_false (by omega : ¬ a < b)]; simp)
                    clear HBAD HAHD HOK
                    go_wp2_with fail
                    rw [HW3.out]
                    go_quiet (fail)
                    go_wp2
                    go_ret
                    exact ⟨rfl, pw_below_drewN (below_then HB2.out HB2.out.size HB3.out) _⟩
                  · have dd2 := decide_eq_false d2
                    have d2' : a < b := by omega
                    have d3' : a < (n : Int) := by omega
                    have d4' : 0 ≤ b := by omega
                    obtain ⟨ado, eado, -, -, -, ha3, ha4⟩ := at_T92 HC3'.out a d0' (by rw [HN.out]; exact d3')
                    obtain ⟨ado', eado', -, -, -, hb3, hb4⟩ := at_T92 HC3'.out b d4' (by rw [HN.out]; exact d1')
                    cases eado
                    cases eado'
                    rw [decide_eq_true d0', decide_eq_true d1', decide_eq_true d2', Bool.true_and, Bool.true_and, Bool.true_and] at HOK
                    generalize (rd_T92 l1 a).f4 = a4 at *
                    generalize (rd_T92 l1 a).f3 = a3 at *
                    generalize (rd_T92 l1 b).f4 = b4 at *
                    generalize (rd_T92 l1 b).f3 = b3 at *
                    cases a4 with
                    | false =>
                      obtain rfl : r = false := HBAD.out (by rw [HOK.out]; rfl)
                      clear HBAD HAHD HOK
                      go_wp2_with fail
                      rw [HW3.out]
                      go_quiet (fail)
                      go_wp2
                      go_ret
                      exact ⟨rfl, pw_below_drewN (below_then HB2.out HB2.out.size HB3.out) _⟩
                    | true =>
                      cases b4 with
                      | false =>
                        obtain rfl : r = false := HBAD.out (by rw [HOK.out]; rfl)
                        clear HBAD HAHD HOK
                        go_wp2_with fail
                        rw [HW3.out]
                        go_quiet (fail)
                        go_wp2
                        go_ret
                        exact ⟨rfl, pw_below_drewN (below_then HB2.out HB2.out.size HB3.out) _⟩
                      | true =>
                        by_cases d5 : a3 = b3
                        · subst d5
                          have bd5 : (a3 == a3) = true := beq_self_eq_true _
                          have HAH := Lib.hid (HAHD.out (by rw [HOK.out]; simp))
                          clear HBAD HAHD HOK
                          by_cases hi0 : i = 0
                          · have hz : ¬ (0 : Int) < (i : Int) := by omega
                            have hz1 : decide ((0 : Int) < (i : Int)) = false := decide_eq_false hz
                            have hz2 : decide (0 < i) = false := decide_eq_false (by omega)
                            have hz3 : ¬ 0 < i := by omega
                            have HX := Aside0.mk (show refGo l1 (prevP l0_1 (i + 1)) (l0_1.drop (i + 1)) = r by
                              have := HAH.out
                              rw [show prevP l0_1 i = none by unfold prevP; rw [if_pos hi0]] at this
                              rw [HNX.out]
                              exact this)
                            have HI0 := Lib.hid hi0
                            clear HAH hi0
                            go_wp2_with fail
                            rw [HW3.out]
                            go_quiet (fail)
                            go_wp2
                            go_quiet (fail)
                            go_wp2
                            go_roundg (nL - (i + 1))
                            case measure => omega
                            case rel => exact ⟨i + 1, by go_num, by omega, Nat.le_refl _, HX, ⟨pw_below_drewN HB3.out _⟩⟩
                          · have hz : (0 : Int) < (i : Int) := by omega
                            have hz1 : decide ((0 : Int) < (i : Int)) = true := decide_eq_true hz
                            have hz3 : 0 < i := by omega
                            have hz2 : decide (0 < i) = true := decide_eq_true hz3
                            obtain ⟨ad', ead', hy0, hy1⟩ := at_T34 HC1'.out ((i - 1 : Nat) : Int) (by omega) (by rw [HNL.out]; omega)
                            cases ead'
                            rw [Int.toNat_natCast] at hy0 hy1
                            have hsub : IntKind.i64.wrap ((i : Int) - 1) = ((i - 1 : Nat) : Int) := by rw [IntWalk.i64_in _ (by omega)]; omega
                            have hb0 : (0 : Int) ≤ ((i - 1 : Nat) : Int) := by omega
                            have hb1 : ((i - 1 : Nat) : Int) < (nL : Int) := by omega
                            rw [show prevP l0_1 i = some (rd_T34 l0_1 ((i - 1 : Nat) : Int)) by unfold prevP; rw [if_neg hi0]] at HAH
                            generalize rd_T34 l0_1 ((i - 1 : Nat) : Int) = qq at hy0 hy1 HAH
                            obtain ⟨c, d⟩ := qq
                            dsimp only at hy0 hy1
                            have hah : (ltP ⟨c, d⟩ ⟨a, b⟩ && refGo l1 (some ⟨a, b⟩) (l0_1.drop (i + 1))) = r := HAH.out
                            have HA2 := Lib.hid hah
                            have HI0 := Lib.hid hi0
                            clear HAH hah hi0
                            by_cases e0 : c > a
                            · have ee0 := decide_eq_true e0
                              obtain rfl : r = false := by rw [← HA2.out, show ltP ⟨c, d⟩ ⟨a, b⟩ = false by rw [← Bool.not_eq_true, ltP_iff]; dsimp only; omega]; rfl
                              clear HA2
                              go_wp2_with fail
                              rw [HW3.out]
                              go_quiet (fail)
                              go_wp2
                              go_quiet (fail)
                              go_wp2
                              go_ret
                              exact ⟨rfl, pw_below_drewN (pw_below_drewN (below_then HB2.out HB2.out.size HB3.out) _) _⟩
                            · have ee0 := decide_eq_false e0
                              by_cases e1 : c = a
                              · subst e1
                                have be1 : (c == c) = true := beq_self_eq_true _
                                by_cases e2 : d ≥ b
                                · have ee2 := decide_eq_true e2
                                  obtain rfl : r = false := by rw [← HA2.out, show ltP ⟨c, d⟩ ⟨c, b⟩ = false by rw [← Bool.not_eq_true, ltP_iff]; dsimp only; omega]; rfl
                                  clear HA2
                                  go_wp2_with fail
                                  rw [HW3.out]
                                  go_quiet (fail)
                                  go_wp2
                                  go_quiet (fail)
                                  go_wp2
                                  go_ret
                                  exact ⟨rfl, pw_below_drewN (pw_below_drewN (below_then HB2.out HB2.out.size HB3.out) _) _⟩
                                · have ee2 := decide_eq_false e2
                                  have HX := Aside0.mk (show refGo l1 (prevP l0_1 (i + 1)) (l0_1.drop (i + 1)) = r by
                                    rw [HNX.out, ← HA2.out, show ltP ⟨c, d⟩ ⟨c, b⟩ = true by rw [ltP_iff]; dsimp only; omega]; rfl)
                                  clear HA2
                                  go_wp2_with fail
                                  rw [HW3.out]
                                  go_quiet (fail)
                                  go_wp2
                                  go_quiet (fail)
                                  go_wp2
                                  go_roundg (nL - (i + 1))
                                  case measure => omega
                                  case rel => exact ⟨i + 1, by go_num, by omega, Nat.le_refl _, HX, ⟨pw_below_drewN HB3.out _⟩⟩
                              · have be1 : (c == a) = false := beq_eq_false_iff_ne.2 e1
                                have HX := Aside0.mk (show refGo l1 (prevP l0_1 (i + 1)) (l0_1.drop (i + 1)) = r by
                                  rw [HNX.out, ← HA2.out, show ltP ⟨c, d⟩ ⟨a, b⟩ = true by rw [ltP_iff]; dsimp only; omega]; rfl)
                                clear HA2
                                go_wp2_with fail
                                rw [HW3.out]
                                go_quiet (fail)
                                go_wp2
                                go_quiet (fail)
                                go_wp2
                                go_roundg (nL - (i + 1))
                                case measure => omega
                                case rel => exact ⟨i + 1, by go_num, by omega, Nat.le_refl _, HX, ⟨pw_below_drewN HB3.out _⟩⟩
                        · have bd5 : (a3 == b3) = false := beq_eq_false_iff_ne.2 d5
                          obtain rfl : r = false := HBAD.out (by rw [HOK.out, decide_eq_false d5]; rfl)
                          clear HBAD HAHD HOK
                          go_wp2_with fail
                          rw [HW3.out]
                          go_quiet (fail)
                          go_wp2
                          go_ret
                          exact ⟨rfl, pw_below_drewN (below_then HB2.out HB2.out.size HB3.out) _⟩
            · have hltz : ¬ (i : Int) < (nL : Int) := by omega
              obtain rfl : nL = i := by omega
              have hP := HP.out
              rw [List.drop_of_length_le (by rw [HNL.out]; exact Nat.le_refl _)] at hP
              have hP1 : true = r := by rw [← hP]; unfold refGo; rfl
              subst hP1
              go_wp2
              go_ret
              exact ⟨rfl, below_then HB2.out HB2.out.size HB.out⟩
    · rw [hn, if_neg (fun hh => hlen2 hh.2)] at h
      obtain rfl := Option.some.inj h
      rw [hlen] at q0 HW2 ⊢
      rw [hn] at ⊢
      have hne : ¬ (l0_2.length : Int) = (n : Int) := by omega
      have bne : ((l0_2.length : Int) == (n : Int)) = false := beq_eq_false_iff_ne.2 hne
      clear h hn hlen hlen2 HCELL HN
      go_enter Try.func31, Try.ntmps31
      go_wp2_with fail
      rw [HW2.out]
      go_wp2
      go_ret
      exact ⟨rfl, HB2.out⟩
  · rw [hn, if_neg (fun hh => hlen hh.1)] at h
    obtain rfl := Option.some.inj h
    rw [hn] at ⊢
    have hne : ¬ (l0_0.length : Int) = (n : Int) := by omega
    have bne : ((l0_0.length : Int) == (n : Int)) = false := beq_eq_false_iff_ne.2 hne
    clear h hn hlen HCELL HN
    go_enter Try.func31, Try.ntmps31
    go_wp2_with fail
    rw [HW2.out]
    go_wp2
    go_ret
    exact ⟨rfl, HB2.out⟩



end Go.Proofs.Ythgjieigpfcekaa.QG
