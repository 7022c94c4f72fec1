-- Laid by this claim's own program (mprint.py in the repo).
import Derived.Test.YthgjieigpfcekaaQGx0
import Derived.Test.YthgjieigpfcekaaQGx2
import Derived.Test.YthgjieigpfcekaaQGx3
namespace Go.Proofs.Ythgjieigpfcekaa.QG
open Go.RowKit Go.Proofs.YthgjieigpfcekaaW.PrintWords Go.Proofs.YthgjieigpfcekaaW.PrintLast Go.Proofs.YthgjieigpfcekaaW.PrintMore
attribute [local go_sem] max2_int min2_int max_two min_two max_three min_three max_four min_four   -- for this text's walks alone
set_option linter.unusedVariables false
set_option linter.unusedSimpArgs false

/-! ### graph_fits: function 86 -/
theorem in_quiet (a0 a1 : Int) (r : Bool) (w : World) (n : Nat) (h : graph_in.f a0 a1 = some r) : Calls Try.prog 62 #[.int .i64 a0, .int .i64 a1] (w.drewN n) fun e w'' => e = .returned (.bool r) ∧ ∃ m, w'' = w.drewN m :=
  Calls.quiet_of ((graph_in.calls a0 a1 r (w.drewN n) h).mono fun e w' h => ⟨h.1, h.2.out⟩)
def inB (i n : Int) : Bool := decide (0 ≤ i) && decide (i < n)
theorem in_inB (a0 a1 : Int) : graph_in.f a0 a1 = some (inB a0 a1) := by
  unfold graph_in.f inB
  by_cases h : 0 ≤ a0
  · rw [if_pos h]; simp [h]
  · rw [if_neg h]; simp [h]
theorem in_plain (a0 a1 : Int) (r : Bool) (w : World) (h : inB a0 a1 = r) : Calls Try.prog 62 #[.int .i64 a0, .int .i64 a1] w fun e w' => e = .returned (.bool r) ∧ Drawn0 w w' :=
  graph_in.calls a0 a1 r w (by rw [in_inB, h])
/-- Both of a pair's numbers stay. -/
def fitP (M : List Int) (p : S34) : Bool := !(inB p.f0 M.length) || !(inB p.f1 M.length) || decide (rd M p.f0 < 0) || decide (rd M p.f1 < 0)
theorem inB_true {i n : Int} (h : inB i n = true) : 0 ≤ i ∧ i < n := by simpa [inB] using h
set_option maxHeartbeats 4000000 in
set_option maxRecDepth 100000 in
theorem fits_closure (Bm : Nat) (A : Option Addr) (c : Nat) (M : List Int) (a b : Int) (w : World)
    (hm : w.cell? ⟨Bm, 0, none⟩ = some (.slice A M.length c)) (hC : Kd.C (Kd.int .i64) w A M.length M) :
    Calls Try.prog 102 (#[.agg #[.int .i64 a, .int .i64 b]] ++ #[.pointer (some ⟨Bm, 0, none⟩)]) w fun e w' => e = .returned (.bool (fitP M ⟨a, b⟩)) ∧ Below w.heap.size w w' := by
  have hu34 := Try.underlying34
  have hbm : Bm < w.heap.size := World.block_lt_of_cell? w _ hm
  show Calls Try.prog 102 #[.agg #[.int .i64 a, .int .i64 b], .pointer (some ⟨Bm, 0, none⟩)] w _
  unfold fitP
  dsimp only
  have hal : Below w.heap.size w (w.alloc (.cells #[.int .i64 a, .int .i64 b] 34)) := below_alloc (Below.refl _ _) _
  have HAL := Aside0.mk hal
  clear hal
  obtain ⟨n, hn⟩ : ∃ n, M.length = n := ⟨_, rfl⟩
  rw [hn]
  have HN := Lib.hid hn
  rw [hn] at hm
  cases h0 : inB a n with
  | false =>
    have i0 := Aside0.mk (fun W => in_plain a n false W h0)
    clear h0 hn
    go_enter Try.func102, Try.ntmps102
    go_wp2_with fail
    refine (i0.out _).mono ?_
    rintro e w1 ⟨rfl, hd⟩
    obtain ⟨nd, rfl⟩ := hd.out
    go_wp2
    go_ret
    exact ⟨rfl, pw_below_drewN HAL.out _⟩
  | true =>
    have i0 := Aside0.mk (fun W => in_plain a n true W h0)
    obtain ⟨ha0, ha1⟩ := inB_true h0
    clear h0
    cases h1 : inB b n with
    | false =>
      have i1 := Aside0.mk (fun W => in_plain b n false W h1)
      clear h1 hn
      go_enter Try.func102, Try.ntmps102
      go_wp2_with fail
      refine (i0.out _).mono ?_
      rintro e w1 ⟨rfl, hd⟩
      obtain ⟨nd, rfl⟩ := hd.out
      clear i0 hd
      go_wp2_with fail
      refine (i1.out _).mono ?_
      rintro e w1 ⟨rfl, hd⟩
      obtain ⟨nd2, rfl⟩ := hd.out
      clear i1 hd
      go_wp2
      go_ret
      exact ⟨rfl, pw_below_drewN HAL.out _⟩
    | true =>
      have i1 := Aside0.mk (fun W => in_plain b n true W h1)
      obtain ⟨hb0, hb1⟩ := inB_true h1
      clear h1
      obtain ⟨ad, ead, hx0⟩ := Kd.at_int (Kd.C_alloc hC (.cells #[.int .i64 a, .int .i64 b] 34)) a ha0 (by rw [hn]; exact ha1)
      obtain ⟨ad', ead', hx1⟩ := Kd.at_int (Kd.C_alloc hC (.cells #[.int .i64 a, .int .i64 b] 34)) b hb0 (by rw [hn]; exact hb1)
      rw [ead] at ead'
      obtain rfl := Option.some.inj ead'
      clear ead'
      cases ead
      clear hC hn
      generalize rd M a = x at *
      generalize rd M b = y at *
      by_cases hx : x < 0
      · have HX := Lib.hid hx
        go_enter Try.func102, Try.ntmps102
        go_wp2_with fail
        refine (i0.out _).mono ?_
        rintro e w1 ⟨rfl, hd⟩
        obtain ⟨nd, rfl⟩ := hd.out
        clear i0 hd
        go_wp2_with fail
        refine (i1.out _).mono ?_
        rintro e w1 ⟨rfl, hd⟩
        obtain ⟨nd2, rfl⟩ := hd.out
        clear i1 hd
        go_wp2
        go_ret
        exact ⟨by simp [HX.out], pw_below_drewN HAL.out _⟩
      · have HX := Lib.hid hx
        by_cases hy : y < 0
        all_goals
          have HY := Lib.hid hy
          go_enter Try.func102, Try.ntmps102
          go_wp2_with fail
          refine (i0.out _).mono ?_
          rintro e w1 ⟨rfl, hd⟩
          obtain ⟨nd, rfl⟩ := hd.out
          clear i0 hd
          go_wp2_with fail
          refine (i1.out _).mono ?_
          rintro e w1 ⟨rfl, hd⟩
          obtain ⟨nd2, rfl⟩ := hd.out
          clear i1 hd
          go_wp2
          go_ret
          exact ⟨by simp [HX.out, HY.out], pw_below_drewN HAL.out _⟩
def agg34 (x : S34) : Value := .agg #[.int .i64 x.f0, .int .i64 x.f1]
theorem any_iff (p : S34 → Bool) (L : List S34) : L.any p = true ↔ ∃ j : Nat, j < L.length ∧ p (rd_T34 L (j : Int)) = true := by
  rw [List.any_eq_true]
  constructor
  · rintro ⟨x, hx, hp⟩
    obtain ⟨j, hj, rfl⟩ := List.getElem_of_mem hx
    refine ⟨j, hj, ?_⟩
    show p (L.getD j _) = true
    simpa [List.getD_eq_getElem?_getD, hj] using hp
  · rintro ⟨j, hj, hp⟩
    refine ⟨L[j], List.getElem_mem hj, ?_⟩
    have : p (L.getD j z34) = true := hp
    simpa [List.getD_eq_getElem?_getD, hj] using this
set_option maxHeartbeats 2000000 in
set_option maxRecDepth 100000 in
theorem pair_index (p : S34 → Bool) (fn : Nat) (lb : Array Value) (eg : ∀ args w, (callFunc fn args).run Try.prog w = .ok (.enter fn args) w) (A : Option Addr) (c : Nat) (ts : List S34) (w : World)
    (hC : Kd.C k34 w A ts.length ts) (hc : ts.length ≤ c)
    (HP : ∀ W x, Below w.heap.size w W → Calls Try.prog fn (#[agg34 x] ++ lb) W fun e w' => e = .returned (.bool (p x)) ∧ Below W.heap.size W w') :
    Calls Try.prog 118 #[.slice A ts.length c, .func (.func fn) #[] lb] w fun e w' => ∃ i : Int, e = .returned (.int .i64 i) ∧ decide (0 ≤ i) = ts.any p ∧ Below w.heap.size w w' := by
  have hmax := Kd.C_max hC
  have hu34 := Try.underlying34
  have HC := Lib.hid hC
  have HPH := Lib.hid HP
  clear hC HP
  obtain ⟨n, hn⟩ : ∃ n, ts.length = n := ⟨_, rfl⟩
  rw [hn] at hmax hc ⊢
  have HN := Lib.hid hn
  clear hn
  go_enter Try.func118, Try.ntmps118
  go_wp2
  go_loopg [5, 8] n (fun gg _ s8 wr => ∃ kk : Nat, kk ≤ n ∧ n - kk ≤ gg ∧ s8 = .int .i64 kk ∧ Aside0 (Below w.heap.size w wr) ∧ Aside0 (∀ j : Nat, j < kk → p (rd_T34 ts (j : Int)) = false))
  case atStart => exact ⟨0, Nat.zero_le _, by omega, rfl, ⟨Below.refl _ w⟩, ⟨fun j hj => absurd hj (Nat.not_lt_zero _)⟩⟩
  case round =>
    obtain ⟨kk, hkk, hg, rfl, BW, HA⟩ := hrel
    by_cases hlt : kk < n
    · have hltz : (kk : Int) < (n : Int) := by omega
      obtain ⟨ad, ead, hx0, hx1⟩ := at_T34 (Kd.C_below HC.out BW.out) (kk : Int) (by omega) (by rw [HN.out]; omega)
      rw [Int.toNat_natCast] at hx0 hx1
      have hcall := HPH.out wr (rd_T34 ts (kk : Int)) BW.out
      have hq0 : Hid (∀ r, p (rd_T34 ts (kk : Int)) = r → p (rd_T34 ts (kk : Int)) = r) := Lib.hid (fun _ h => h)
      obtain ⟨x, hx⟩ : ∃ x, rd_T34 ts (kk : Int) = x := ⟨_, rfl⟩
      have HX := Lib.hid hx
      rw [hx] at hx0 hx1 hcall
      clear hx hq0
      obtain ⟨t0, t1⟩ := x
      dsimp only [agg34] at *
      cases ead
      cases hq : p ⟨t0, t1⟩ with
      | true =>
        have HQ := Lib.hid hq
        rw [hq] at hcall
        clear hq
        go_wp2_with (go_at_fn fn; refine hcall.mono ?_; rintro e w' ⟨rfl, hb'⟩)
        go_ret
        refine ⟨_, rfl, ?_, (BW.out).trans (hb'.mono BW.out.size)⟩
        rw [(any_iff p ts).2 ⟨kk, by rw [HN.out]; exact hlt, by rw [HX.out]; exact HQ.out⟩]
        simp
      | false =>
        have HQ := Lib.hid hq
        rw [hq] at hcall
        clear hq
        go_wp2_with (go_at_fn fn; refine hcall.mono ?_; rintro e w' ⟨rfl, hb'⟩)
        go_roundg (n - (kk + 1))
        case measure => omega
        case rel =>
          refine ⟨kk + 1, by omega, by omega, by go_num, ⟨(BW.out).trans (hb'.mono BW.out.size)⟩, ⟨fun j hj => ?_⟩⟩
          by_cases e : j = kk
          · subst e
            rw [HX.out]; exact HQ.out
          · exact HA.out j (by omega)
    · have hltz : ¬ (kk : Int) < (n : Int) := by omega
      have : kk = n := by omega
      subst this
      go_wp2
      go_ret
      refine ⟨_, rfl, ?_, BW.out⟩
      have : ts.any p = false := by
        rw [← Bool.not_eq_true, any_iff]
        rintro ⟨j, hj, hp⟩
        rw [HA.out j (by rw [← HN.out]; exact hj)] at hp
        cases hp
      rw [this]
      rfl
set_option maxHeartbeats 2000000 in
theorem pair_contains (p : S34 → Bool) (fn : Nat) (lb : Array Value) (eg : ∀ args w, (callFunc fn args).run Try.prog w = .ok (.enter fn args) w) (A : Option Addr) (c : Nat) (ts : List S34) (w : World)
    (hC : Kd.C k34 w A ts.length ts) (hc : ts.length ≤ c)
    (HP : ∀ W x, Below w.heap.size w W → Calls Try.prog fn (#[agg34 x] ++ lb) W fun e w' => e = .returned (.bool (p x)) ∧ Below W.heap.size W w') :
    Calls Try.prog 101 #[.slice A ts.length c, .func (.func fn) #[] lb] w fun e w' => e = .returned (.bool (ts.any p)) ∧ Below w.heap.size w w' := by
  have HI := Aside0.mk (pair_index p fn lb eg A c ts w hC hc HP)
  clear hC hc HP
  go_enter Try.func101, Try.ntmps101
  go_wp2_with (go_at_call 118; refine HI.out.mono ?_; rintro e w1 ⟨i, rfl, hi, hb⟩)
  rw [← hi]
  by_cases h0 : 0 ≤ i
  all_goals
    go_wp2
    go_ret
    exact ⟨by first | rfl | simp [h0], hb⟩
def fitBad (E M : List Int) (i : Int) (x : Int) (S : List Int) : Bool := decide (x < -1) || (decide (-1 < x) && (S.contains x || !(inB (rd E i) M.length) || decide (rd M (rd E i) < 0)))
def fitGo (E M : List Int) : List Int → Int → List Int → Bool
  | [], _, _ => true
  | x :: r, i, S => if fitBad E M i x S = true then false else fitGo E M r (i + 1) (x :: S)
def graph_fits.f (k : Nat) (E : List Int) (L : List S34) (V : List Int) (M : List Int) : Option Bool :=
  if M.length = E.length then (if M.all okI = true ∧ M.length ≤ 16777216 then some (if fitGo E M M 0 [] = true then !(L.any (fitP M)) else false) else none) else some false
theorem graph_fits.mono : ∀ a0 a1 a2 a3 k, LeO (graph_fits.f k a0 a1 a2 a3) (graph_fits.f (k + 1) a0 a1 a2 a3) := fun _ _ _ _ _ => LeO.refl _
set_option maxHeartbeats 4000000 in
set_option maxRecDepth 100000 in
theorem graph_fits.calls (k : Nat) (A0_0 : Option Addr) (c0_0 : Nat) (l0_0 : List Int) (A0_1 : Option Addr) (c0_1 : Nat) (l0_1 : List S34) (A0_2 : Option Addr) (c0_2 : Nat) (l0_2 : List Int) (A1 : Option Addr) (c1 : Nat) (l1 : List Int) (r : Bool) (w : World)
    (hr0_0 : Kd.C (Kd.int .i64) w A0_0 l0_0.length l0_0) (hc0_0 : l0_0.length ≤ c0_0) (hr0_1 : Kd.C k34 w A0_1 l0_1.length l0_1) (hc0_1 : l0_1.length ≤ c0_1) (hr0_2 : Kd.C (Kd.int .i64) w A0_2 l0_2.length l0_2) (hc0_2 : l0_2.length ≤ c0_2) (hr1 : Kd.C (Kd.int .i64) w A1 l1.length l1) (hc1 : l1.length ≤ c1) (h : graph_fits.f k l0_0 l0_1 l0_2 l1 = some r) :
    Calls Try.prog 86 #[.agg #[.slice A0_0 l0_0.length c0_0, .slice A0_1 l0_1.length c0_1, .slice A0_2 l0_2.length c0_2], .slice A1 l1.length c1] w fun e w' => e = .returned (.bool r) ∧ Below w.heap.size w w' := by
  have hu51 := Try.underlying51
  have hu78 := Try.underlying78
  have HC0 := Aside0.mk hr0_0
  have HC1 := Aside0.mk hr0_1
  have HC3 := Aside0.mk hr1
  have hmx0 := Kd.C_max hr0_0
  have hmx1 := Kd.C_max hr1
  clear hr0_0 hr0_1 hr0_2 hc0_2 hc0_0 hr1 hc1
  unfold graph_fits.f at h
  by_cases hlen : l1.length = l0_0.length
  · rw [if_pos hlen] at h
    by_cases hok : l1.all okI = true ∧ l1.length ≤ 16777216
    · rw [if_pos hok] at h
      obtain rfl := Option.some.inj h
      obtain ⟨hE, hMl⟩ := hok
      have HE := Lib.hid hE
      clear h hE
      have hmm := @run_makeMap Try.prog
      obtain ⟨kc, hkc⟩ : ∃ kc : List (Nat × Obj), kc = [(w.heap.size + 1, Obj.cells #[.slice A1 l1.length c1] 24 (0, 0)), (w.heap.size, Obj.cells #[.slice A0_0 l0_0.length c0_0, .slice A0_1 l0_1.length c0_1, .slice A0_2 l0_2.length c0_2] 51 (0, 0))] := ⟨_, rfl⟩
      have HKC := Lib.hid hkc
      have hst : MapSt w (w.heap.size + 1 + 1) kc [] (((w.alloc (.cells #[.slice A0_0 l0_0.length c0_0, .slice A0_1 l0_1.length c0_1, .slice A0_2 l0_2.length c0_2] 51)).alloc (.cells #[.slice A1 l1.length c1] 24)).alloc (.map #[] 0)) := by
        refine ⟨below_alloc (below_alloc (below_alloc (Below.refl _ _) _) _) _, by omega, ?_, ?_⟩
        · intro p hp
          rw [hkc] at hp
          simp only [List.mem_cons, List.not_mem_nil, or_false] at hp
          rcases hp with rfl | rfl
          · refine ⟨by show w.heap.size + 1 ≠ _; omega, blk_alloc ?_ _⟩
            have := blk_new (w.alloc (.cells #[.slice A0_0 l0_0.length c0_0, .slice A0_1 l0_1.length c0_1, .slice A0_2 l0_2.length c0_2] 51)) (.cells #[.slice A1 l1.length c1] 24)
            simpa using this
          · exact ⟨by show w.heap.size ≠ _; omega, blk_alloc (blk_alloc (blk_new w _) _) _⟩
        · have := mb_made ((w.alloc (.cells #[.slice A0_0 l0_0.length c0_0, .slice A0_1 l0_1.length c0_1, .slice A0_2 l0_2.length c0_2] 51)).alloc (.cells #[.slice A1 l1.length c1] 24))
          simpa using this
      have HST := Aside0.mk hst
      have hcells : ∀ S wr, MapSt w (w.heap.size + 1 + 1) kc S wr → wr.cell? ⟨w.heap.size, 0, none⟩ = some (.slice A0_0 l0_0.length c0_0) ∧ wr.cell? ⟨w.heap.size, 1, none⟩ = some (.slice A0_1 l0_1.length c0_1) ∧ wr.cell? ⟨w.heap.size + 1, 0, none⟩ = some (.slice A1 l1.length c1) := by
        intro S wr hm
        have hk := hm.kept
        rw [HKC.out] at hk
        have h1 := (hk (w.heap.size, Obj.cells #[.slice A0_0 l0_0.length c0_0, .slice A0_1 l0_1.length c0_1, .slice A0_2 l0_2.length c0_2] 51 (0, 0)) (by simp)).2
        have h2 := (hk (w.heap.size + 1, Obj.cells #[.slice A1 l1.length c1] 24 (0, 0)) (by simp)).2
        refine ⟨?_, ?_, mb_cell1 h2⟩ <;> simp [World.cell?, h1]
      have HCELL := Lib.hid hcells
      clear hcells hkc HKC hst
      obtain ⟨nE, hnE⟩ : ∃ nE, l0_0.length = nE := ⟨_, rfl⟩
      rw [hnE] at HST HCELL hlen ⊢
      rw [hlen] at HST HCELL hMl ⊢
      have HNE := Lib.hid hnE
      have HLE := Lib.hid hlen
      clear hnE hlen
      obtain ⟨res, hres⟩ : ∃ res, fitGo l0_0 l1 l1 0 [] = res := ⟨_, rfl⟩
      rw [hres]
      have HG0 := Aside0.mk (show fitGo l0_0 l1 (l1.drop 0) ((0 : Nat) : Int) [] = res from hres)
      clear hres
      go_enter Try.func86, Try.ntmps86
      go_wp2
      go_loopg [6, 7, 17] nE (fun gg _ _ v17 wr => ∃ (j : Nat) (S : List Int), v17 = .int .i64 j ∧ j ≤ nE ∧ nE - j ≤ gg ∧ S.length ≤ j ∧ Aside0 (fitGo l0_0 l1 (l1.drop j) (j : Int) S = res) ∧ Aside0 (MapSt w (w.heap.size + 1 + 1) kc S wr))
      case atStart => exact ⟨0, [], rfl, Nat.zero_le _, by omega, Nat.le_refl _, HG0, HST⟩
      case round =>
        clear HG0 HST
        obtain ⟨j, S, rfl, hj, hgj, hlen, HP, HS⟩ := hrel
        by_cases hlt : j < nE
        · have hltz : (j : Int) < (nE : Int) := by omega
          obtain ⟨adm, eadm, hx0⟩ := Kd.at_int (Kd.C_below HC3.out HS.out.below) (j : Int) (by omega) (by rw [HLE.out]; omega)
          obtain ⟨ade, eade, hx1⟩ := Kd.at_int (Kd.C_below HC0.out HS.out.below) (j : Int) (by omega) (by rw [HNE.out]; omega)
          have hokx := rd_all l1 HE.out (j : Int) (by omega) (by rw [HLE.out]; omega)
          have hdr := Lib.hid (drop_int l1 j (by rw [HLE.out]; exact hlt))
          rw [Int.toNat_natCast] at hx0 hx1
          have HCM := Aside0.mk (Kd.C_below HC3.out HS.out.below)
          have hpa : Hid ((if fitBad l0_0 l1 (j : Int) (rd l1 (j : Int)) S = true then false else fitGo l0_0 l1 (l1.drop (j + 1)) ((j : Int) + 1) (rd l1 (j : Int) :: S)) = res) := Lib.hid (by
            have := HP.out
            rw [hdr.out] at this
            exact this)
          clear HP hdr
          generalize rd l1 (j : Int) = x at hx0 hokx hpa
          have HRB : Hid (fitBad l0_0 l1 (j : Int) x S = true → res = false) := Lib.hid (fun hb => by have := hpa.out; rw [if_pos hb] at this; exact this.symm)
          have HRG : Hid (fitBad l0_0 l1 (j : Int) x S = false → fitGo l0_0 l1 (l1.drop (j + 1)) ((j + 1 : Nat) : Int) (x :: S) = res) := Lib.hid (fun hb => by have := hpa.out; rw [if_neg (by rw [hb]; simp)] at this; exact this)
          clear hpa
          cases eadm
          cases eade
          obtain ⟨q0, q1, q2⟩ := HCELL.out S _ HS.out
          have hld := fun m : Nat => (show (Instr.lookup 78 (.map (some (w.heap.size + 1 + 1))) (.int .i64 x) false).run Try.prog (wr.drewN m) = .ok (.bool (S.contains x)) (wr.drewN m) from mb_look (mb_below HS.out.map (pw_below_drewN (Below.refl _ _) m)) x hokx)
          by_cases hx : x < -1
          · skip
            have hr0 : res = false := HRB.out (by unfold fitBad; simp only [hx, decide_true, decide_false, Bool.or_true, Bool.true_or, Bool.and_true, Bool.true_and, Bool.and_false, Bool.false_and, Bool.or_false, Bool.false_or, Bool.not_true, Bool.not_false])
            subst hr0
            clear HRB HRG
            go_wp2
            go_quiet (fail)
            go_wp2
            go_ret
            exact ⟨rfl, pw_below_drewN HS.out.below _⟩
          · have dx := decide_eq_false hx
            by_cases hy : -1 < x
            · have dy := decide_eq_true hy
              have hyg : x > -1 := hy
              cases hc : S.contains x with
              | true =>
                rw [hc] at hld
                have hr0 : res = false := HRB.out (by unfold fitBad; simp only [hc, hy, decide_true, decide_false, Bool.or_true, Bool.true_or, Bool.and_true, Bool.true_and, Bool.and_false, Bool.false_and, Bool.or_false, Bool.false_or, Bool.not_true, Bool.not_false])
                subst hr0
                clear HRB HRG
                go_wp2
                go_quiet (fail)
                go_wp2
                go_ret
                exact ⟨rfl, pw_below_drewN HS.out.below _⟩
              | false =>
                rw [hc] at hld
                obtain ⟨e, he⟩ : ∃ e, rd l0_0 (j : Int) = e := ⟨_, rfl⟩
                rw [he] at hx1
                cases hi : inB e nE with
                | false =>
                  have hq := in_quiet e nE false wr
                  have hr0 : res = false := HRB.out (by unfold fitBad; simp only [hc, hy, he, HLE.out, hi, decide_true, decide_false, Bool.or_true, Bool.true_or, Bool.and_true, Bool.true_and, Bool.and_false, Bool.false_and, Bool.or_false, Bool.false_or, Bool.not_true, Bool.not_false])
                  subst hr0
                  clear HRB HRG hq
                  have HIN := Lib.hid hi
                  clear hi he
                  go_wp2
                  go_quiet (exact in_quiet e nE false wr _ (by rw [in_inB, HIN.out]))
                  go_wp2
                  go_ret
                  exact ⟨rfl, pw_below_drewN HS.out.below _⟩
                | true =>
                  obtain ⟨hi0, hi1⟩ := inB_true hi
                  obtain ⟨adm', eadm', hx2⟩ := Kd.at_int HCM.out e hi0 (by rw [HLE.out]; exact hi1)
                  cases eadm'
                  have HIN := Lib.hid hi
                  obtain ⟨y, hyy⟩ : ∃ y, rd l1 e = y := ⟨_, rfl⟩
                  rw [hyy] at hx2
                  by_cases hz : y < 0
                  · have dz := decide_eq_true hz
                    have hr0 : res = false := HRB.out (by unfold fitBad; simp only [hc, hy, he, HLE.out, hi, hyy, hz, decide_true, decide_false, Bool.or_true, Bool.true_or, Bool.and_true, Bool.true_and, Bool.and_false, Bool.false_and, Bool.or_false, Bool.false_or, Bool.not_true, Bool.not_false])
                    subst hr0
                    clear HRB HRG hi he hyy
                    go_wp2
                    go_quiet (exact in_quiet e nE true wr _ (by rw [in_inB, HIN.out]))
                    go_wp2
                    go_ret
                    exact ⟨rfl, pw_below_drewN HS.out.below _⟩
                  · have dz := decide_eq_false hz
                    have HX := Aside0.mk (HRG.out (by unfold fitBad; simp only [hc, hx, he, HLE.out, hi, hyy, hz, decide_true, decide_false, Bool.or_true, Bool.true_or, Bool.and_true, Bool.true_and, Bool.and_false, Bool.false_and, Bool.or_false, Bool.false_or, Bool.not_true, Bool.not_false]))
                    clear HRB HRG hi he hyy
                    go_wp2
                    go_quiet (exact in_quiet e nE true wr _ (by rw [in_inB, HIN.out]))
                    obtain ⟨r1, s1, g1⟩ := ms_put (ms_drewN HS.out nq) x hokx (by unfold maxLen; omega)
                    have S1 := Aside0.mk s1
                    clear s1 g1
                    go_wp2
                    go_roundg (nE - (j + 1))
                    case measure => omega
                    case rel => exact ⟨j + 1, x :: S, by go_num, by omega, Nat.le_refl _, by simp; omega, HX, S1⟩
            · have dy := decide_eq_false hy
              have HX := Aside0.mk (HRG.out (by unfold fitBad; simp only [hx, hy, decide_true, decide_false, Bool.or_true, Bool.true_or, Bool.and_true, Bool.true_and, Bool.and_false, Bool.false_and, Bool.or_false, Bool.false_or, Bool.not_true, Bool.not_false]))
              clear HRB HRG
              go_wp2
              go_quiet (fail)
              obtain ⟨r1, s1, g1⟩ := ms_put (ms_drewN HS.out nq) x hokx (by unfold maxLen; omega)
              have S1 := Aside0.mk s1
              clear s1 g1
              go_wp2
              go_roundg (nE - (j + 1))
              case measure => omega
              case rel => exact ⟨j + 1, x :: S, by go_num, by omega, Nat.le_refl _, by simp; omega, HX, S1⟩
        · have hltz : ¬ (j : Int) < (nE : Int) := by omega
          obtain rfl : j = nE := by omega
          have hP := HP.out
          rw [List.drop_of_length_le (by rw [HLE.out]; exact Nat.le_refl _)] at hP
          have hP1 : true = res := hP
          subst hP1
          clear hP HP
          obtain ⟨q0, q1, q2⟩ := HCELL.out S _ HS.out
          have HCm := Aside0.mk (Kd.C_below HC3.out HS.out.below)
          have eg : ∀ args w, (callFunc 102 args).run Try.prog w = .ok (.enter 102 args) w := enters_of Try.func102 (by kernel_rfl) rfl
          have HW := Aside0.mk (pair_contains (fitP l1) 102 #[.pointer (some ⟨w.heap.size + 1, 0, none⟩)] eg A0_1 c0_1 l0_1 wr (Kd.C_below HC1.out HS.out.below) hc0_1 (fun W x hb => by
            obtain ⟨d0, d1, d2⟩ := HCELL.out S _ (ms_below HS.out hb)
            exact fits_closure (w.heap.size + 1) A1 c1 l1 x.f0 x.f1 W (by rw [HLE.out]; exact d2) (Kd.C_below HCm.out hb)))
          clear eg
          have HBS := Aside0.mk HS.out.below
          clear HS HCm
          obtain ⟨z, hz⟩ : ∃ z, l0_1.any (fitP l1) = z := ⟨_, rfl⟩
          rw [hz] at HW
          have HZ := Lib.hid hz
          clear hz
          go_wp2_with fail
          refine HW.out.mono ?_
          rintro e w3 ⟨rfl, hb⟩
          have HB3 := Aside0.mk (below_then HBS.out HBS.out.size hb)
          clear hb
          go_wp2
          go_ret
          exact ⟨by rw [HZ.out]; rfl, HB3.out⟩
    · rw [if_neg hok] at h
      cases h
  · rw [if_neg hlen] at h
    obtain rfl := Option.some.inj h
    clear h
    go_enter Try.func86, Try.ntmps86
    go_wp2
    go_ret
    exact ⟨rfl, below_alloc (below_alloc (Below.refl _ _) _) _⟩



end Go.Proofs.Ythgjieigpfcekaa.QG
