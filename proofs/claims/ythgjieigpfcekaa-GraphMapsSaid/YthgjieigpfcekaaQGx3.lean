-- Laid by this claim's own program (mprint.py in the repo).
import Derived.Test.YthgjieigpfcekaaQGx0
import Derived.Test.YthgjieigpfcekaaQGx2
namespace Go.Proofs.Ythgjieigpfcekaa.QG
open Go.RowKit Go.Proofs.YthgjieigpfcekaaW.PrintWords Go.Proofs.YthgjieigpfcekaaW.PrintLast Go.Proofs.YthgjieigpfcekaaW.PrintMore
attribute [local go_sem] max2_int min2_int max_two min_two max_three min_three max_four min_four   -- for this text's walks alone
set_option linter.unusedVariables false
set_option linter.unusedSimpArgs false

/-! ### graph_Spare: function 60 -/
set_option maxHeartbeats 2000000 in
set_option maxRecDepth 100000 in
theorem spare_closure (Bl Bk bm n : Nat) (S : List Int) (A : Option Addr) (c : Nat) (l : List S92) (i : Int) (w : World) (h0 : 0 ≤ i) (h1 : i < l.length) (hlen : l.length ≤ 16777216)
    (hk : w.cell? ⟨Bk, 0, none⟩ = some (.map (some bm))) (hg : w.cell? ⟨Bl, 0, none⟩ = some (.slice A l.length c)) (hC : Kd.C k92 w A l.length l) (hM : MB w bm n S) :
    Calls Try.prog 85 (#[.int .i64 i] ++ #[.pointer (some ⟨Bl, 0, none⟩), .pointer (some ⟨Bk, 0, none⟩)]) w fun e w' => e = .returned (.bool ((rd_T92 l i).f4 && !S.contains i)) ∧ Below w.heap.size w w' := by
  obtain ⟨ad, ead, -, -, -, -, hx4⟩ := at_T92 hC i h0 h1
  have hl := mb_look hM i (okI_of (by omega) (by omega))
  have hu := Try.underlying52
  have hu2 := Try.underlying92
  generalize (rd_T92 l i).f4 = x at *
  generalize S.contains i = r at *
  generalize l.length = m at *
  clear hC hM hlen
  cases ead
  show Calls Try.prog 85 #[.int .i64 i, .pointer (some ⟨Bl, 0, none⟩), .pointer (some ⟨Bk, 0, none⟩)] w _
  cases x with
  | false =>
    go_enter Try.func85, Try.ntmps85
    go_wp2
    go_ret
    exact ⟨rfl, Below.refl _ _⟩
  | true =>
    cases r <;>
    · go_enter Try.func85, Try.ntmps85
      go_wp2
      go_ret
      exact ⟨rfl, Below.refl _ _⟩
def spE : List Int → Int → List Int → List Int
  | [], _, S => S
  | d :: r, i, S => spE r (i + 1) (if i = d then S else d :: S)
def spL : List S34 → List Int → List Int
  | [], S => S
  | p :: r, S => spL r (p.f1 :: p.f0 :: S)
def graph_Spare.f (k : Nat) (E : List Int) (L : List S34) (V : List Int) (l : List S92) : Option (List Int) :=
  if E.all okI = true ∧ okL L = true ∧ E.length ≤ 16777216 ∧ L.length ≤ 1000000 ∧ l.length ≤ 16777216 then some (whereL (fun i => (rd_T92 l i).f4 && !(spL L (spE E 0 [])).contains i) l.length) else none
theorem graph_Spare.mono : ∀ a0 a1 a2 a3 k, LeO (graph_Spare.f k a0 a1 a2 a3) (graph_Spare.f (k + 1) a0 a1 a2 a3) := fun _ _ _ _ _ => LeO.refl _
set_option maxHeartbeats 4000000 in
set_option maxRecDepth 100000 in
theorem graph_Spare.calls (k : Nat) (A0_0 : Option Addr) (c0_0 : Nat) (l0_0 : List Int) (A0_1 : Option Addr) (c0_1 : Nat) (l0_1 : List S34) (A0_2 : Option Addr) (c0_2 : Nat) (l0_2 : List Int) (A1 : Option Addr) (c1 : Nat) (l1 : List (S92)) (r : List Int) (w : World)
    (hr0_0 : Kd.C (Kd.int .i64) w A0_0 l0_0.length l0_0) (hc0_0 : l0_0.length ≤ c0_0) (hr0_1 : Kd.C k34 w A0_1 l0_1.length l0_1) (hc0_1 : l0_1.length ≤ c0_1) (hr0_2 : Kd.C (Kd.int .i64) w A0_2 l0_2.length l0_2) (hc0_2 : l0_2.length ≤ c0_2) (hr1 : Kd.C k92 w A1 l1.length l1) (hc1 : l1.length ≤ c1) (h : graph_Spare.f k l0_0 l0_1 l0_2 l1 = some r) :
    Calls Try.prog 60 #[.agg #[.slice A0_0 l0_0.length c0_0, .slice A0_1 l0_1.length c0_1, .slice A0_2 l0_2.length c0_2], .slice A1 l1.length c1] w fun e w' => ∃ v0_ : Value, e = .returned (v0_) ∧ Kd.R (Kd.int .i64) 3 w' w.heap.size (fun _ => True) v0_ r ∧ Below w.heap.size w w' := by
  have hu51 := Try.underlying51
  have hu34 := Try.underlying34
  have hu78 := Try.underlying78
  have HC0 := Aside0.mk hr0_0
  have HC1 := Aside0.mk hr0_1
  have HC3 := Aside0.mk hr1
  clear hr0_0 hr0_1 hr0_2 hc0_2 hc0_0 hc0_1 hr1 hc1
  unfold graph_Spare.f at h
  by_cases hok : l0_0.all okI = true ∧ okL l0_1 = true ∧ l0_0.length ≤ 16777216 ∧ l0_1.length ≤ 1000000 ∧ l1.length ≤ 16777216
  · rw [if_pos hok] at h
    obtain rfl := Option.some.inj h
    obtain ⟨hE, hL, hEl, hLl, hll⟩ := hok
    have HE := Lib.hid hE
    have HLK := Lib.hid hL
    clear h hE hL
    have hmm := @run_makeMap Try.prog
    obtain ⟨kc, hkc⟩ : ∃ kc : List (Nat × Obj), kc = [(w.heap.size + 1, Obj.cells #[.slice A1 l1.length c1] 52 (0, 0)), (w.heap.size, Obj.cells #[.slice A0_0 l0_0.length c0_0, .slice A0_1 l0_1.length c0_1, .slice A0_2 l0_2.length c0_2] 51 (0, 0))] := ⟨_, rfl⟩
    have HKC := Lib.hid hkc
    have hst : MapSt w (w.heap.size + 1 + 1) kc [] (((w.alloc (.cells #[.slice A0_0 l0_0.length c0_0, .slice A0_1 l0_1.length c0_1, .slice A0_2 l0_2.length c0_2] 51)).alloc (.cells #[.slice A1 l1.length c1] 52)).alloc (.map #[] 0)) := by
      refine ⟨below_alloc (below_alloc (below_alloc (Below.refl _ _) _) _) _, by omega, ?_, ?_⟩
      · intro p hp
        rw [hkc] at hp
        simp only [List.mem_cons, List.not_mem_nil, or_false] at hp
        rcases hp with rfl | rfl
        · refine ⟨by show w.heap.size + 1 ≠ _; omega, blk_alloc ?_ _⟩
          have := blk_new (w.alloc (.cells #[.slice A0_0 l0_0.length c0_0, .slice A0_1 l0_1.length c0_1, .slice A0_2 l0_2.length c0_2] 51)) (.cells #[.slice A1 l1.length c1] 52)
          simpa using this
        · exact ⟨by show w.heap.size ≠ _; omega, blk_alloc (blk_alloc (blk_new w _) _) _⟩
      · have := mb_made ((w.alloc (.cells #[.slice A0_0 l0_0.length c0_0, .slice A0_1 l0_1.length c0_1, .slice A0_2 l0_2.length c0_2] 51)).alloc (.cells #[.slice A1 l1.length c1] 52))
        simpa using this
    have hst1 := ms_more hst (.cells #[.map (some (w.heap.size + 1 + 1))] 78)
    rw [show (((w.alloc (.cells #[.slice A0_0 l0_0.length c0_0, .slice A0_1 l0_1.length c0_1, .slice A0_2 l0_2.length c0_2] 51)).alloc (.cells #[.slice A1 l1.length c1] 52)).alloc (.map #[] 0)).heap.size = w.heap.size + 1 + 1 + 1 by simp] at hst1
    have HST := Aside0.mk hst1
    clear hst hst1 hkc
    obtain ⟨kd, hkd⟩ : ∃ kd : List (Nat × Obj), kd = (w.heap.size + 1 + 1 + 1, Obj.cells #[.map (some (w.heap.size + 1 + 1))] 78 (0, 0)) :: kc := ⟨_, rfl⟩
    have hcells : ∀ S wr, MapSt w (w.heap.size + 1 + 1) kd S wr → wr.cell? ⟨w.heap.size, 0, none⟩ = some (.slice A0_0 l0_0.length c0_0) ∧ wr.cell? ⟨w.heap.size, 1, none⟩ = some (.slice A0_1 l0_1.length c0_1) ∧ wr.cell? ⟨w.heap.size + 1, 0, none⟩ = some (.slice A1 l1.length c1) ∧ wr.cell? ⟨w.heap.size + 1 + 1 + 1, 0, none⟩ = some (.map (some (w.heap.size + 1 + 1))) := by
      intro S wr hm
      have hk := hm.kept
      rw [hkd, HKC.out] at hk
      have h1 := (hk (w.heap.size, Obj.cells #[.slice A0_0 l0_0.length c0_0, .slice A0_1 l0_1.length c0_1, .slice A0_2 l0_2.length c0_2] 51 (0, 0)) (by simp)).2
      have h2 := (hk (w.heap.size + 1, Obj.cells #[.slice A1 l1.length c1] 52 (0, 0)) (by simp)).2
      have h3 := (hk (w.heap.size + 1 + 1 + 1, Obj.cells #[.map (some (w.heap.size + 1 + 1))] 78 (0, 0)) (by simp)).2
      refine ⟨?_, ?_, mb_cell1 h2, mb_cell1 h3⟩ <;> simp [World.cell?, h1]
    rw [← hkd] at HST
    have HCELL := Lib.hid hcells
    clear hcells hkd HKC
    go_enter Try.func60, Try.ntmps60
    go_wp2
    obtain ⟨SE, hSE⟩ : ∃ SE, spE l0_0 0 [] = SE := ⟨_, rfl⟩
    have HSE := Lib.hid hSE
    have HF0 := Aside0.mk (show spE (l0_0.drop 0) ((0 : Nat) : Int) [] = SE from hSE)
    clear hSE
    obtain ⟨nE, hnE⟩ : ∃ nE, l0_0.length = nE := ⟨_, rfl⟩
    rw [hnE] at hEl HCELL ⊢
    have HNE := Lib.hid hnE
    have HST0 := Aside0.mk HST.out
    rw [hnE] at HST0
    clear hnE HST
    go_loopg [6, 7, 14] nE (fun gg _ _ v14 wr => ∃ (j : Nat) (S : List Int), v14 = .int .i64 j ∧ j ≤ nE ∧ nE - j ≤ gg ∧ S.length ≤ j ∧ Aside0 (spE (l0_0.drop j) (j : Int) S = SE) ∧ Aside0 (MapSt w (w.heap.size + 1 + 1) kd S wr))
    case atStart => exact ⟨0, [], rfl, Nat.zero_le _, by omega, Nat.le_refl _, HF0, HST0⟩
    case round =>
      clear HF0 HST0
      obtain ⟨j, S, rfl, hj, hgj, hlen, HP, HS⟩ := hrel
      by_cases hlt : j < nE
      · have hltz : (j : Int) < (nE : Int) := by omega
        obtain ⟨ad1, ead1, hx0⟩ := Kd.at_int (Kd.C_below HC0.out HS.out.below) (j : Int) (by omega) (by rw [HNE.out]; omega)
        have hokd := rd_all l0_0 HE.out (j : Int) (by omega) (by rw [HNE.out]; omega)
        have hdr := Lib.hid (drop_int l0_0 j (by rw [HNE.out]; exact hlt))
        rw [Int.toNat_natCast] at hx0
        generalize rd l0_0 (j : Int) = d at hx0 hokd hdr
        cases ead1
        obtain ⟨q0, q1, q2, q3⟩ := HCELL.out S _ HS.out
        have hpa : Hid (spE (l0_0.drop (j + 1)) ((j + 1 : Nat) : Int) (if (j : Int) = d then S else d :: S) = SE) := Lib.hid (by
          have := HP.out
          rw [hdr.out] at this
          exact this)
        clear HP hdr
        by_cases hd : (j : Int) = d
        · have HX := Aside0.mk (show spE (l0_0.drop (j + 1)) ((j + 1 : Nat) : Int) S = SE by have := hpa.out; rw [if_pos hd] at this; exact this)
          clear hpa
          subst hd
          go_wp2
          go_roundg (nE - (j + 1))
          case measure => omega
          case rel => exact ⟨j + 1, S, by go_num, by omega, Nat.le_refl _, by omega, HX, HS⟩
        · have HX := Aside0.mk (show spE (l0_0.drop (j + 1)) ((j + 1 : Nat) : Int) (d :: S) = SE by have := hpa.out; rw [if_neg hd] at this; exact this)
          clear hpa
          obtain ⟨r1, s1, g1⟩ := ms_put HS.out d hokd (by unfold maxLen; omega)
          have S1 := Aside0.mk s1
          clear s1 g1
          go_wp2
          go_roundg (nE - (j + 1))
          case measure => omega
          case rel => exact ⟨j + 1, d :: S, by go_num, by omega, Nat.le_refl _, by simp; omega, HX, S1⟩
      · have hltz : ¬ (j : Int) < (nE : Int) := by omega
        obtain rfl : j = nE := by omega
        have hP := HP.out
        rw [List.drop_of_length_le (by rw [HNE.out]; exact Nat.le_refl _)] at hP
        have hP1 : S = SE := hP
        subst hP1
        clear hP HP
        obtain ⟨q0, q1, q2, q3⟩ := HCELL.out S _ HS.out
        go_wp2
        clear q0 q1 q2 q3
        obtain rfl := HNE.out
        obtain ⟨SF, hSF⟩ : ∃ SF, spL l0_1 S = SF := ⟨_, rfl⟩
        have HSF := Lib.hid hSF
        have HF0 := Aside0.mk (show spL (l0_1.drop 0) S = SF from hSF)
        clear hSF
        obtain ⟨nL, hnL⟩ : ∃ nL, l0_1.length = nL := ⟨_, rfl⟩
        rw [hnL] at hLl HCELL ⊢
        have HNL := Lib.hid hnL
        have HS0 := Aside0.mk HS.out
        clear hnL HS
        go_loopg [9, 28] nL (fun gg _ v28 wr => ∃ (j : Nat) (S' : List Int), v28 = .int .i64 j ∧ j ≤ nL ∧ nL - j ≤ gg ∧ S'.length ≤ S.length + 2 * j ∧ Aside0 (spL (l0_1.drop j) S' = SF) ∧ Aside0 (MapSt w (w.heap.size + 1 + 1) kd S' wr))
        case atStart => exact ⟨0, S, rfl, Nat.zero_le _, by omega, by omega, HF0, HS0⟩
        case round =>
          clear HF0 HS0
          obtain ⟨j, S', rfl, hj, hgj, hlen', HPs, HS1⟩ := hrel
          by_cases hlt : j < nL
          · have hltz : (j : Int) < (nL : Int) := by omega
            obtain ⟨ad1, ead1, hx0, hx1⟩ := at_T34 (Kd.C_below HC1.out HS1.out.below) (j : Int) (by omega) (by rw [HNL.out]; omega)
            rw [Int.toNat_natCast] at hx0 hx1
            obtain ⟨ok0, ok1⟩ := okL_at l0_1 HLK.out (j : Int) (by omega) (by rw [HNL.out]; omega)
            have hdr := Lib.hid (drop_at l0_1 j (by rw [HNL.out]; exact hlt))
            generalize rd_T34 l0_1 (j : Int) = x at hx0 hx1 ok0 ok1 hdr
            obtain ⟨a, b⟩ := x
            dsimp only at hx0 hx1 ok0 ok1
            cases ead1
            have HS2 := Aside0.mk (ms_alloc HS1.out (.cells #[.int .i64 a, .int .i64 b] 34))
            obtain ⟨q0, q1, q2, q3⟩ := HCELL.out S' _ HS2.out
            have HX := Aside0.mk (show spL (l0_1.drop (j + 1)) (b :: a :: S') = SF by have := HPs.out; rw [hdr.out] at this; exact this)
            clear HPs hdr
            go_wp2
            clear hx0 hx1
            obtain ⟨r1, s1, g1⟩ := ms_put (ms_drew HS2.out) a ok0 (by unfold maxLen; omega)
            obtain ⟨r2, s2, g2⟩ := ms_put s1 b ok1 (by unfold maxLen; simp; omega)
            have hwl := mb_lt HS1.out.map
            have e1 : (mapPut (wr.alloc (.cells #[.int .i64 a, .int .i64 b] 34)).drew (w.heap.size + 1 + 1) a).cell? ⟨wr.heap.size, 1, none⟩ = some (.int .i64 b) := mcell_grown g1 (by simp) (by simp; omega)
            obtain ⟨_, _, _, f1⟩ := HCELL.out _ _ s1
            have S2 := Aside0.mk s2
            clear g1 g2 s1 s2 hwl
            go_region
            all_goals
              go_wp2
              go_roundg (nL - (j + 1))
              case measure => omega
              case rel => exact ⟨j + 1, b :: a :: S', by go_num, by omega, Nat.le_refl _, by simp; omega, HX, S2⟩
          · have hltz : ¬ (j : Int) < (nL : Int) := by omega
            obtain rfl : j = nL := by omega
            have hP := HPs.out
            rw [List.drop_of_length_le (by rw [HNL.out]; exact Nat.le_refl _)] at hP
            have hP1 : S' = SF := hP
            subst hP1
            clear hP HPs
            obtain ⟨q0, q1, q2, q3⟩ := HCELL.out S' _ HS1.out
            have HCr := Aside0.mk (Kd.C_below HC3.out HS1.out.below)
            have eg : ∀ args w, (callFunc 85 args).run Try.prog w = .ok (.enter 85 args) w := enters_of Try.func85 (by kernel_rfl) rfl
            have HW := Aside0.mk (where_calls (fun i => (rd_T92 l1 i).f4 && !S'.contains i) 85 #[.pointer (some ⟨w.heap.size + 1, 0, none⟩), .pointer (some ⟨w.heap.size + 1 + 1 + 1, 0, none⟩)] eg (l1.length : Int) (by omega) wr (fun W i hb h0 h1 => by
              obtain ⟨-, -, d2, d3⟩ := HCELL.out S' _ (ms_below HS1.out hb)
              exact spare_closure (w.heap.size + 1) (w.heap.size + 1 + 1 + 1) (w.heap.size + 1 + 1) S'.length S' A1 c1 l1 i W h0 h1 hll d3 d2 (Kd.C_below HCr.out hb) (mb_below HS1.out.map hb)))
            clear eg
            have HBS := Aside0.mk HS1.out.below
            clear HS1 HCr
            go_wp2_with fail
            refine HW.out.mono ?_
            rintro e w3 ⟨v0, rfl, ho, hb⟩
            have HO := Aside0.mk (Kd.R_lower ho HBS.out.size)
            have HB3 := Aside0.mk (below_then HBS.out HBS.out.size hb)
            clear ho hb
            go_wp2
            go_ret
            refine ⟨v0, rfl, ?_, HB3.out⟩
            rw [HSE.out, HSF.out]
            exact HO.out
  · rw [if_neg hok] at h
    cases h



/-! ### graph_fits: function 86 -/
theorem in_quiet (a0 a1 : Int) (r : Bool) (w : World) (n : Nat) (h : graph_in.f a0 a1 = some r) : Calls Try.prog 62 #[.int .i64 a0, .int .i64 a1] (w.drewN n) fun e w'' => e = .returned (.bool r) ∧ ∃ m, w'' = w.drewN m :=
  Calls.quiet_of ((graph_in.calls a0 a1 r (w.drewN n) h).mono fun e w' h => ⟨h.1, h.2.out⟩)
def inB (i n : Int) : Bool := decide (0 ≤ i) && decide (i < n)
theorem in_inB (a0 a1 : Int) : graph_in.f a0 a1 = some (inB a0 a1) := by
  unfold graph_in.f inB
  by_cases h : 0 ≤ a0
  · rw [if_pos h]; simp [h]
  · rw [if_neg h]; simp [h]
theorem in_plain (a0 a1 : Int) (r : Bool) (w : World) (h : inB a0 a1 = r) : Calls Try.prog 62 #[.int .i64 a0, .int .i64 a1] w fun e w' => e = .returned (.bool r) ∧ Drawn0 w w' :=
  graph_in.calls a0 a1 r w (by rw [in_inB, h])
/-- Both of a pair's numbers stay. -/
def fitP (M : List Int) (p : S34) : Bool := !(inB p.f0 M.length) || !(inB p.f1 M.length) || decide (rd M p.f0 < 0) || decide (rd M p.f1 < 0)
theorem inB_true {i n : Int} (h : inB i n = true) : 0 ≤ i ∧ i < n := by simpa [inB] using h
set_option maxHeartbeats 4000000 in
set_option maxRecDepth 100000 in
theorem fits_closure (Bm : Nat) (A : Option Addr) (c : Nat) (M : List Int) (a b : Int) (w : World)
    (hm : w.cell? ⟨Bm, 0, none⟩ = some (.slice A M.length c)) (hC : Kd.C (Kd.int .i64) w A M.length M) :
    Calls Try.prog 102 (#[.agg #[.int .i64 a, .int .i64 b]] ++ #[.pointer (some ⟨Bm, 0, none⟩)]) w fun e w' => e = .returned (.bool (fitP M ⟨a, b⟩)) ∧ Below w.heap.size w w' := by
  have hu34 := Try.underlying34
  have hbm : Bm < w.heap.size := World.block_lt_of_cell? w _ hm
  show Calls Try.prog 102 #[.agg #[.int .i64 a, .int .i64 b], .pointer (some ⟨Bm, 0, none⟩)] w _
  unfold fitP
  dsimp only
  have hal : Below w.heap.size w (w.alloc (.cells #[.int .i64 a, .int .i64 b] 34)) := below_alloc (Below.refl _ _) _
  have HAL := Aside0.mk hal
  clear hal
  obtain ⟨n, hn⟩ : ∃ n, M.length = n := ⟨_, rfl⟩
  rw [hn]
  have HN := Lib.hid hn
  rw [hn] at hm
  cases h0 : inB a n with
  | false =>
    have i0 := Aside0.mk (fun W => in_plain a n false W h0)
    clear h0 hn
    go_enter Try.func102, Try.ntmps102
    go_wp2_with fail
    refine (i0.out _).mono ?_
    rintro e w1 ⟨rfl, hd⟩
    obtain ⟨nd, rfl⟩ := hd.out
    go_wp2
    go_ret
    exact ⟨rfl, pw_below_drewN HAL.out _⟩
  | true =>
    have i0 := Aside0.mk (fun W => in_plain a n true W h0)
    obtain ⟨ha0, ha1⟩ := inB_true h0
    clear h0
    cases h1 : inB b n with
    | false =>
      have i1 := Aside0.mk (fun W => in_plain b n false W h1)
      clear h1 hn
      go_enter Try.func102, Try.ntmps102
      go_wp2_with fail
      refine (i0.out _).mono ?_
      rintro e w1 ⟨rfl, hd⟩
      obtain ⟨nd, rfl⟩ := hd.out
      clear i0 hd
      go_wp2_with fail
      refine (i1.out _).mono ?_
      rintro e w1 ⟨rfl, hd⟩
      obtain ⟨nd2, rfl⟩ := hd.out
      clear i1 hd
      go_wp2
      go_ret
      exact ⟨rfl, pw_below_drewN HAL.out _⟩
    | true =>
      have i1 := Aside0.mk (fun W => in_plain b n true W h1)
      obtain ⟨hb0, hb1⟩ := inB_true h1
      clear h1
      obtain ⟨ad, ead, hx0⟩ := Kd.at_int (Kd.C_alloc hC (.cells #[.int .i64 a, .int .i64 b] 34)) a ha0 (by rw [hn]; exact ha1)
      obtain ⟨ad', ead', hx1⟩ := Kd.at_int (Kd.C_alloc hC (.cells #[.int .i64 a, .int .i64 b] 34)) b hb0 (by rw [hn]; exact hb1)
      rw [ead] at ead'
      obtain rfl := Option.some.inj ead'
      clear ead'
      cases ead
      clear hC hn
      generalize rd M a = x at *
      generalize rd M b = y at *
      by_cases hx : x < 0
      · have HX := Lib.hid hx
        go_enter Try.func102, Try.ntmps102
        go_wp2_with fail
        refine (i0.out _).mono ?_
        rintro e w1 ⟨rfl, hd⟩
        obtain ⟨nd, rfl⟩ := hd.out
        clear i0 hd
        go_wp2_with fail
        refine (i1.out _).mono ?_
        rintro e w1 ⟨rfl, hd⟩
        obtain ⟨nd2, rfl⟩ := hd.out
        clear i1 hd
        go_wp2
        go_ret
        exact ⟨by simp [HX.out], pw_below_drewN HAL.out _⟩
      · have HX := Lib.hid hx
        by_cases hy : y < 0
        all_goals
          have HY := Lib.hid hy
          go_enter Try.func102, Try.ntmps102
          go_wp2_with fail
          refine (i0.out _).mono ?_
          rintro e w1 ⟨rfl, hd⟩
          obtain ⟨nd, rfl⟩ := hd.out
          clear i0 hd
          go_wp2_with fail
          refine (i1.out _).mono ?_
          rintro e w1 ⟨rfl, hd⟩
          obtain ⟨nd2, rfl⟩ := hd.out
          clear i1 hd
          go_wp2
          go_ret
          exact ⟨by simp [HX.out, HY.out], pw_below_drewN HAL.out _⟩
def agg34 (x : S34) : Value := .agg #[.int .i64 x.f0, .int .i64 x.f1]
theorem any_iff (p : S34 → Bool) (L : List S34) : L.any p = true ↔ ∃ j : Nat, j < L.length ∧ p (rd_T34 L (j : Int)) = true := by
  rw [List.any_eq_true]
  constructor
  · rintro ⟨x, hx, hp⟩
    obtain ⟨j, hj, rfl⟩ := List.getElem_of_mem hx
    refine ⟨j, hj, ?_⟩
    show p (L.getD j _) = true
    simpa [List.getD_eq_getElem?_getD, hj] using hp
  · rintro ⟨j, hj, hp⟩
    refine ⟨L[j], List.getElem_mem hj, ?_⟩
    have : p (L.getD j z34) = true := hp
    simpa [List.getD_eq_getElem?_getD, hj] using this
set_option maxHeartbeats 2000000 in
set_option maxRecDepth 100000 in
theorem pair_index (p : S34 → Bool) (fn : Nat) (lb : Array Value) (eg : ∀ args w, (callFunc fn args).run Try.prog w = .ok (.enter fn args) w) (A : Option Addr) (c : Nat) (ts : List S34) (w : World)
    (hC : Kd.C k34 w A ts.length ts) (hc : ts.length ≤ c)
    (HP : ∀ W x, Below w.heap.size w W → Calls Try.prog fn (#[agg34 x] ++ lb) W fun e w' => e = .returned (.bool (p x)) ∧ Below W.heap.size W w') :
    Calls Try.prog 118 #[.slice A ts.length c, .func (.func fn) #[] lb] w fun e w' => ∃ i : Int, e = .returned (.int .i64 i) ∧ decide (0 ≤ i) = ts.any p ∧ Below w.heap.size w w' := by
  have hmax := Kd.C_max hC
  have hu34 := Try.underlying34
  have HC := Lib.hid hC
  have HPH := Lib.hid HP
  clear hC HP
  obtain ⟨n, hn⟩ : ∃ n, ts.length = n := ⟨_, rfl⟩
  rw [hn] at hmax hc ⊢
  have HN := Lib.hid hn
  clear hn
  go_enter Try.func118, Try.ntmps118
  go_wp2
  go_loopg [5, 8] n (fun gg _ s8 wr => ∃ kk : Nat, kk ≤ n ∧ n - kk ≤ gg ∧ s8 = .int .i64 kk ∧ Aside0 (Below w.heap.size w wr) ∧ Aside0 (∀ j : Nat, j < kk → p (rd_T34 ts (j : Int)) = false))
  case atStart => exact ⟨0, Nat.zero_le _, by omega, rfl, ⟨Below.refl _ w⟩, ⟨fun j hj => absurd hj (Nat.not_lt_zero _)⟩⟩
  case round =>
    obtain ⟨kk, hkk, hg, rfl, BW, HA⟩ := hrel
    by_cases hlt : kk < n
    · have hltz : (kk : Int) < (n : Int) := by omega
      obtain ⟨ad, ead, hx0, hx1⟩ := at_T34 (Kd.C_below HC.out BW.out) (kk : Int) (by omega) (by rw [HN.out]; omega)
      rw [Int.toNat_natCast] at hx0 hx1
      have hcall := HPH.out wr (rd_T34 ts (kk : Int)) BW.out
      have hq0 : Hid (∀ r, p (rd_T34 ts (kk : Int)) = r → p (rd_T34 ts (kk : Int)) = r) := Lib.hid (fun _ h => h)
      obtain ⟨x, hx⟩ : ∃ x, rd_T34 ts (kk : Int) = x := ⟨_, rfl⟩
      have HX := Lib.hid hx
      rw [hx] at hx0 hx1 hcall
      clear hx hq0
      obtain ⟨t0, t1⟩ := x
      dsimp only [agg34] at *
      cases ead
      cases hq : p ⟨t0, t1⟩ with
      | true =>
        have HQ := Lib.hid hq
        rw [hq] at hcall
        clear hq
        go_wp2_with (go_at_fn fn; refine hcall.mono ?_; rintro e w' ⟨rfl, hb'⟩)
        go_ret
        refine ⟨_, rfl, ?_, (BW.out).trans (hb'.mono BW.out.size)⟩
        rw [(any_iff p ts).2 ⟨kk, by rw [HN.out]; exact hlt, by rw [HX.out]; exact HQ.out⟩]
        simp
      | false =>
        have HQ := Lib.hid hq
        rw [hq] at hcall
        clear hq
        go_wp2_with (go_at_fn fn; refine hcall.mono ?_; rintro e w' ⟨rfl, hb'⟩)
        go_roundg (n - (kk + 1))
        case measure => omega
        case rel =>
          refine ⟨kk + 1, by omega, by omega, by go_num, ⟨(BW.out).trans (hb'.mono BW.out.size)⟩, ⟨fun j hj => ?_⟩⟩
          by_cases e : j = kk
          · subst e
            rw [HX.out]; exact HQ.out
          · exact HA.out j (by omega)
    · have hltz : ¬ (kk : Int) < (n : Int) := by omega
      have : kk = n := by omega
      subst this
      go_wp2
      go_ret
      refine ⟨_, rfl, ?_, BW.out⟩
      have : ts.any p = false := by
        rw [← Bool.not_eq_true, any_iff]
        rintro ⟨j, hj, hp⟩
        rw [HA.out j (by rw [← HN.out]; exact hj)] at hp
        cases hp
      rw [this]
      rfl
set_option maxHeartbeats 2000000 in
theorem pair_contains (p : S34 → Bool) (fn : Nat) (lb : Array Value) (eg : ∀ args w, (callFunc fn args).run Try.prog w = .ok (.enter fn args) w) (A : Option Addr) (c : Nat) (ts : List S34) (w : World)
    (hC : Kd.C k34 w A ts.length ts) (hc : ts.length ≤ c)
    (HP : ∀ W x, Below w.heap.size w W → Calls Try.prog fn (#[agg34 x] ++ lb) W fun e w' => e = .returned (.bool (p x)) ∧ Below W.heap.size W w') :
    Calls Try.prog 101 #[.slice A ts.length c, .func (.func fn) #[] lb] w fun e w' => e = .returned (.bool (ts.any p)) ∧ Below w.heap.size w w' := by
  have HI := Aside0.mk (pair_index p fn lb eg A c ts w hC hc HP)
  clear hC hc HP
  go_enter Try.func101, Try.ntmps101
  go_wp2_with (go_at_call 118; refine HI.out.mono ?_; rintro e w1 ⟨i, rfl, hi, hb⟩)
  rw [← hi]
  by_cases h0 : 0 ≤ i
  all_goals
    go_wp2
    go_ret
    exact ⟨by first | rfl | simp [h0], hb⟩
def fitBad (E M : List Int) (i : Int) (x : Int) (S : List Int) : Bool := decide (x < -1) || (decide (-1 < x) && (S.contains x || !(inB (rd E i) M.length) || decide (rd M (rd E i) < 0)))
def fitGo (E M : List Int) : List Int → Int → List Int → Bool
  | [], _, _ => true
  | x :: r, i, S => if fitBad E M i x S = true then false else fitGo E M r (i + 1) (x :: S)
def graph_fits.f (k : Nat) (E : List Int) (L : List S34) (V : List Int) (M : List Int) : Option Bool :=
  if M.length = E.length then (if M.all okI = true ∧ M.length ≤ 16777216 then some (if fitGo E M M 0 [] = true then !(L.any (fitP M)) else false) else none) else some false
theorem graph_fits.mono : ∀ a0 a1 a2 a3 k, LeO (graph_fits.f k a0 a1 a2 a3) (graph_fits.f (k + 1) a0 a1 a2 a3) := fun _ _ _ _ _ => LeO.refl _
set_option maxHeartbeats 4000000 in
set_option maxRecDepth 100000 in
theorem graph_fits.calls (k : Nat) (A0_0 : Option Addr) (c0_0 : Nat) (l0_0 : List Int) (A0_1 : Option Addr) (c0_1 : Nat) (l0_1 : List S34) (A0_2 : Option Addr) (c0_2 : Nat) (l0_2 : List Int) (A1 : Option Addr) (c1 : Nat) (l1 : List Int) (r : Bool) (w : World)
    (hr0_0 : Kd.C (Kd.int .i64) w A0_0 l0_0.length l0_0) (hc0_0 : l0_0.length ≤ c0_0) (hr0_1 : Kd.C k34 w A0_1 l0_1.length l0_1) (hc0_1 : l0_1.length ≤ c0_1) (hr0_2 : Kd.C (Kd.int .i64) w A0_2 l0_2.length l0_2) (hc0_2 : l0_2.length ≤ c0_2) (hr1 : Kd.C (Kd.int .i64) w A1 l1.length l1) (hc1 : l1.length ≤ c1) (h : graph_fits.f k l0_0 l0_1 l0_2 l1 = some r) :
    Calls Try.prog 86 #[.agg #[.slice A0_0 l0_0.length c0_0, .slice A0_1 l0_1.length c0_1, .slice A0_2 l0_2.length c0_2], .slice A1 l1.length c1] w fun e w' => e = .returned (.bool r) ∧ Below w.heap.size w w' := by
  have hu51 := Try.underlying51
  have hu78 := Try.underlying78
  have HC0 := Aside0.mk hr0_0
  have HC1 := Aside0.mk hr0_1
  have HC3 := Aside0.mk hr1
  have hmx0 := Kd.C_max hr0_0
  have hmx1 := Kd.C_max hr1
  clear hr0_0 hr0_1 hr0_2 hc0_2 hc0_0 hr1 hc1
  unfold graph_fits.f at h
  by_cases hlen : l1.length = l0_0.length
  · rw [if_pos hlen] at h
    by_cases hok : l1.all okI = true ∧ l1.length ≤ 16777216
    · rw [if_pos hok] at h
      obtain rfl := Option.some.inj h
      obtain ⟨hE, hMl⟩ := hok
      have HE := Lib.hid hE
      clear h hE
      have hmm := @run_makeMap Try.prog
      obtain ⟨kc, hkc⟩ : ∃ kc : List (Nat × Obj), kc = [(w.heap.size + 1, Obj.cells #[.slice A1 l1.length c1] 24 (0, 0)), (w.heap.size, Obj.cells #[.slice A0_0 l0_0.length c0_0, .slice A0_1 l0_1.length c0_1, .slice A0_2 l0_2.length c0_2] 51 (0, 0))] := ⟨_, rfl⟩
      have HKC := Lib.hid hkc
      have hst : MapSt w (w.heap.size + 1 + 1) kc [] (((w.alloc (.cells #[.slice A0_0 l0_0.length c0_0, .slice A0_1 l0_1.length c0_1, .slice A0_2 l0_2.length c0_2] 51)).alloc (.cells #[.slice A1 l1.length c1] 24)).alloc (.map #[] 0)) := by
        refine ⟨below_alloc (below_alloc (below_alloc (Below.refl _ _) _) _) _, by omega, ?_, ?_⟩
        · intro p hp
          rw [hkc] at hp
          simp only [List.mem_cons, List.not_mem_nil, or_false] at hp
          rcases hp with rfl | rfl
          · refine ⟨by show w.heap.size + 1 ≠ _; omega, blk_alloc ?_ _⟩
            have := blk_new (w.alloc (.cells #[.slice A0_0 l0_0.length c0_0, .slice A0_1 l0_1.length c0_1, .slice A0_2 l0_2.length c0_2] 51)) (.cells #[.slice A1 l1.length c1] 24)
            simpa using this
          · exact ⟨by show w.heap.size ≠ _; omega, blk_alloc (blk_alloc (blk_new w _) _) _⟩
        · have := mb_made ((w.alloc (.cells #[.slice A0_0 l0_0.length c0_0, .slice A0_1 l0_1.length c0_1, .slice A0_2 l0_2.length c0_2] 51)).alloc (.cells #[.slice A1 l1.length c1] 24))
          simpa using this
      have HST := Aside0.mk hst
      have hcells : ∀ S wr, MapSt w (w.heap.size + 1 + 1) kc S wr → wr.cell? ⟨w.heap.size, 0, none⟩ = some (.slice A0_0 l0_0.length c0_0) ∧ wr.cell? ⟨w.heap.size, 1, none⟩ = some (.slice A0_1 l0_1.length c0_1) ∧ wr.cell? ⟨w.heap.size + 1, 0, none⟩ = some (.slice A1 l1.length c1) := by
        intro S wr hm
        have hk := hm.kept
        rw [HKC.out] at hk
        have h1 := (hk (w.heap.size, Obj.cells #[.slice A0_0 l0_0.length c0_0, .slice A0_1 l0_1.length c0_1, .slice A0_2 l0_2.length c0_2] 51 (0, 0)) (by simp)).2
        have h2 := (hk (w.heap.size + 1, Obj.cells #[.slice A1 l1.length c1] 24 (0, 0)) (by simp)).2
        refine ⟨?_, ?_, mb_cell1 h2⟩ <;> simp [World.cell?, h1]
      have HCELL := Lib.hid hcells
      clear hcells hkc HKC hst
      obtain ⟨nE, hnE⟩ : ∃ nE, l0_0.length = nE := ⟨_, rfl⟩
      rw [hnE] at HST HCELL hlen ⊢
      rw [hlen] at HST HCELL hMl ⊢
      have HNE := Lib.hid hnE
      have HLE := Lib.hid hlen
      clear hnE hlen
      obtain ⟨res, hres⟩ : ∃ res, fitGo l0_0 l1 l1 0 [] = res := ⟨_, rfl⟩
      rw [hres]
      have HG0 := Aside0.mk (show fitGo l0_0 l1 (l1.drop 0) ((0 : Nat) : Int) [] = res from hres)
      clear hres
      go_enter Try.func86, Try.ntmps86
      go_wp2
      go_loopg [6, 7, 17] nE (fun gg _ _ v17 wr => ∃ (j : Nat) (S : List Int), v17 = .int .i64 j ∧ j ≤ nE ∧ nE - j ≤ gg ∧ S.length ≤ j ∧ Aside0 (fitGo l0_0 l1 (l1.drop j) (j : Int) S = res) ∧ Aside0 (MapSt w (w.heap.size + 1 + 1) kc S wr))
      case atStart => exact ⟨0, [], rfl, Nat.zero_le _, by omega, Nat.le_refl _, HG0, HST⟩
      case round =>
        clear HG0 HST
        obtain ⟨j, S, rfl, hj, hgj, hlen, HP, HS⟩ := hrel
        by_cases hlt : j < nE
        · have hltz : (j : Int) < (nE : Int) := by omega
          obtain ⟨adm, eadm, hx0⟩ := Kd.at_int (Kd.C_below HC3.out HS.out.below) (j : Int) (by omega) (by rw [HLE.out]; omega)
          obtain ⟨ade, eade, hx1⟩ := Kd.at_int (Kd.C_below HC0.out HS.out.below) (j : Int) (by omega) (by rw [HNE.out]; omega)
          have hokx := rd_all l1 HE.out (j : Int) (by omega) (by rw [HLE.out]; omega)
          have hdr := Lib.hid (drop_int l1 j (by rw [HLE.out]; exact hlt))
          rw [Int.toNat_natCast] at hx0 hx1
          have HCM := Aside0.mk (Kd.C_below HC3.out HS.out.below)
          have hpa : Hid ((if fitBad l0_0 l1 (j : Int) (rd l1 (j : Int)) S = true then false else fitGo l0_0 l1 (l1.drop (j + 1)) ((j : Int) + 1) (rd l1 (j : Int) :: S)) = res) := Lib.hid (by
            have := HP.out
            rw [hdr.out] at this
            exact this)
          clear HP hdr
          generalize rd l1 (j : Int) = x at hx0 hokx hpa
          have HRB : Hid (fitBad l0_0 l1 (j : Int) x S = true → res = false) := Lib.hid (fun hb => by have := hpa.out; rw [if_pos hb] at this; exact this.symm)
          have HRG : Hid (fitBad l0_0 l1 (j : Int) x S = false → fitGo l0_0 l1 (l1.drop (j + 1)) ((j + 1 : Nat) : Int) (x :: S) = res) := Lib.hid (fun hb => by have := hpa.out; rw [if_neg (by rw [hb]; simp)] at this; exact this)
          clear hpa
          cases eadm
          cases eade
          obtain ⟨q0, q1, q2⟩ := HCELL.out S _ HS.out
          have hld := fun m : Nat => (show (Instr.lookup 78 (.map (some (w.heap.size + 1 + 1))) (.int .i64 x) false).run Try.prog (wr.drewN m) = .ok (.bool (S.contains x)) (wr.drewN m) from mb_look (mb_below HS.out.map (pw_below_drewN (Below.refl _ _) m)) x hokx)
          by_cases hx : x < -1
          · skip
            have hr0 : res = false := HRB.out (by unfold fitBad; simp only [hx, decide_true, decide_false, Bool.or_true, Bool.true_or, Bool.and_true, Bool.true_and, Bool.and_false, Bool.false_and, Bool.or_false, Bool.false_or, Bool.not_true, Bool.not_false])
            subst hr0
            clear HRB HRG
            go_wp2
            go_quiet (fail)
            go_wp2
            go_ret
            exact ⟨rfl, pw_below_drewN HS.out.below _⟩
          · have dx := decide_eq_false hx
            by_cases hy : -1 < x
            · have dy := decide_eq_true hy
              have hyg : x > -1 := hy
              cases hc : S.contains x with
              | true =>
                rw [hc] at hld
                have hr0 : res = false := HRB.out (by unfold fitBad; simp only [hc, hy, decide_true, decide_false, Bool.or_true, Bool.true_or, Bool.and_true, Bool.true_and, Bool.and_false, Bool.false_and, Bool.or_false, Bool.false_or, Bool.not_true, Bool.not_false])
                subst hr0
                clear HRB HRG
                go_wp2
                go_quiet (fail)
                go_wp2
                go_ret
                exact ⟨rfl, pw_below_drewN HS.out.below _⟩
              | false =>
                rw [hc] at hld
                obtain ⟨e, he⟩ : ∃ e, rd l0_0 (j : Int) = e := ⟨_, rfl⟩
                rw [he] at hx1
                cases hi : inB e nE with
                | false =>
                  have hq := in_quiet e nE false wr
                  have hr0 : res = false := HRB.out (by unfold fitBad; simp only [hc, hy, he, HLE.out, hi, decide_true, decide_false, Bool.or_true, Bool.true_or, Bool.and_true, Bool.true_and, Bool.and_false, Bool.false_and, Bool.or_false, Bool.false_or, Bool.not_true, Bool.not_false])
                  subst hr0
                  clear HRB HRG hq
                  have HIN := Lib.hid hi
                  clear hi he
                  go_wp2
                  go_quiet (exact in_quiet e nE false wr _ (by rw [in_inB, HIN.out]))
                  go_wp2
                  go_ret
                  exact ⟨rfl, pw_below_drewN HS.out.below _⟩
                | true =>
                  obtain ⟨hi0, hi1⟩ := inB_true hi
                  obtain ⟨adm', eadm', hx2⟩ := Kd.at_int HCM.out e hi0 (by rw [HLE.out]; exact hi1)
                  cases eadm'
                  have HIN := Lib.hid hi
                  obtain ⟨y, hyy⟩ : ∃ y, rd l1 e = y := ⟨_, rfl⟩
                  rw [hyy] at hx2
                  by_cases hz : y < 0
                  · have dz := decide_eq_true hz
                    have hr0 : res = false := HRB.out (by unfold fitBad; simp only [hc, hy, he, HLE.out, hi, hyy, hz, decide_true, decide_false, Bool.or_true, Bool.true_or, Bool.and_true, Bool.true_and, Bool.and_false, Bool.false_and, Bool.or_false, Bool.false_or, Bool.not_true, Bool.not_false])
                    subst hr0
                    clear HRB HRG hi he hyy
                    go_wp2
                    go_quiet (exact in_quiet e nE true wr _ (by rw [in_inB, HIN.out]))
                    go_wp2
                    go_ret
                    exact ⟨rfl, pw_below_drewN HS.out.below _⟩
                  · have dz := decide_eq_false hz
                    have HX := Aside0.mk (HRG.out (by unfold fitBad; simp only [hc, hx, he, HLE.out, hi, hyy, hz, decide_true, decide_false, Bool.or_true, Bool.true_or, Bool.and_true, Bool.true_and, Bool.and_false, Bool.false_and, Bool.or_false, Bool.false_or, Bool.not_true, Bool.not_false]))
                    clear HRB HRG hi he hyy
                    go_wp2
                    go_quiet (exact in_quiet e nE true wr _ (by rw [in_inB, HIN.out]))
                    obtain ⟨r1, s1, g1⟩ := ms_put (ms_drewN HS.out nq) x hokx (by unfold maxLen; omega)
                    have S1 := Aside0.mk s1
                    clear s1 g1
                    go_wp2
                    go_roundg (nE - (j + 1))
                    case measure => omega
                    case rel => exact ⟨j + 1, x :: S, by go_num, by omega, Nat.le_refl _, by simp; omega, HX, S1⟩
            · have dy := decide_eq_false hy
              have HX := Aside0.mk (HRG.out (by unfold fitBad; simp only [hx, hy, decide_true, decide_false, Bool.or_true, Bool.true_or, Bool.and_true, Bool.true_and, Bool.and_false, Bool.false_and, Bool.or_false, Bool.false_or, Bool.not_true, Bool.not_false]))
              clear HRB HRG
              go_wp2
              go_quiet (fail)
              obtain ⟨r1, s1, g1⟩ := ms_put (ms_drewN HS.out nq) x hokx (by unfold maxLen; omega)
              have S1 := Aside0.mk s1
              clear s1 g1
              go_wp2
              go_roundg (nE - (j + 1))
              case measure => omega
              case rel => exact ⟨j + 1, x :: S, by go_num, by omega, Nat.le_refl _, by simp; omega, HX, S1⟩
        · have hltz : ¬ (j : Int) < (nE : Int) := by omega
          obtain rfl : j = nE := by omega
          have hP := HP.out
          rw [List.drop_of_length_le (by rw [HLE.out]; exact Nat.le_refl _)] at hP
          have hP1 : true = res := hP
          subst hP1
          clear hP HP
          obtain ⟨q0, q1, q2⟩ := HCELL.out S _ HS.out
          have HCm := Aside0.mk (Kd.C_below HC3.out HS.out.below)
          have eg : ∀ args w, (callFunc 102 args).run Try.prog w = .ok (.enter 102 args) w := enters_of Try.func102 (by kernel_rfl) rfl
          have HW := Aside0.mk (pair_contains (fitP l1) 102 #[.pointer (some ⟨w.heap.size + 1, 0, none⟩)] eg A0_1 c0_1 l0_1 wr (Kd.C_below HC1.out HS.out.below) hc0_1 (fun W x hb => by
            obtain ⟨d0, d1, d2⟩ := HCELL.out S _ (ms_below HS.out hb)
            exact fits_closure (w.heap.size + 1) A1 c1 l1 x.f0 x.f1 W (by rw [HLE.out]; exact d2) (Kd.C_below HCm.out hb)))
          clear eg
          have HBS := Aside0.mk HS.out.below
          clear HS HCm
          obtain ⟨z, hz⟩ : ∃ z, l0_1.any (fitP l1) = z := ⟨_, rfl⟩
          rw [hz] at HW
          have HZ := Lib.hid hz
          clear hz
          go_wp2_with fail
          refine HW.out.mono ?_
          rintro e w3 ⟨rfl, hb⟩
          have HB3 := Aside0.mk (below_then HBS.out HBS.out.size hb)
          clear hb
          go_wp2
          go_ret
          exact ⟨by rw [HZ.out]; rfl, HB3.out⟩
    · rw [if_neg hok] at h
      cases h
  · rw [if_neg hlen] at h
    obtain rfl := Option.some.inj h
    clear h
    go_enter Try.func86, Try.ntmps86
    go_wp2
    go_ret
    exact ⟨rfl, below_alloc (below_alloc (Below.refl _ _) _) _⟩



end Go.Proofs.Ythgjieigpfcekaa.QG
