/- The law MatchClasses' own function: walked by hand; what its callees tell makes each test come out. -/
import Derived.Test.YthgjieigpfcekaaMtAlive
import Derived.Test.YthgjieigpfcekaaQMx8
namespace Go.Proofs.Ythgjieigpfcekaa.QM
open Go.RowKit Go.Proofs.YthgjieigpfcekaaW.PrintWords Go.Proofs.YthgjieigpfcekaaW.PrintLast Go.Proofs.YthgjieigpfcekaaW.PrintMore Go.Proofs.Ythgjieigpfcekaa.Gr
set_option linter.unusedVariables false
set_option linter.unusedSimpArgs false
def oriellaw12_MatchClasses.f (k : Nat) (l : List PP) (a b c : Int) : Option Bool := if okL l = true ∧ oriellaw12_alive.f k = some true then some true else none
def mod20 (a : Int) : Int := (a.tmod 20 + 20).tmod 20
theorem mod20_in (a : Int) : 0 ≤ mod20 a ∧ mod20 a < 20 := by
  unfold mod20
  have h1 := Int.tmod_lt_of_pos a (show (0 : Int) < 20 by omega)
  have h2 := Int.lt_tmod_of_pos a (show (0 : Int) < 20 by omega)
  rw [Int.tmod_eq_emod_of_nonneg (by omega)]
  omega
theorem mod20_wrap (a : Int) : (wrap64 (a.tmod 20 + 20)).tmod 20 = mod20 a := by
  unfold mod20
  have h1 := Int.tmod_lt_of_pos a (show (0 : Int) < 20 by omega)
  have h2 := Int.lt_tmod_of_pos a (show (0 : Int) < 20 by omega)
  rw [show wrap64 (a.tmod 20 + 20) = a.tmod 20 + 20 by unfold wrap64; omega]
theorem mc_tok (w : World) (base : Nat) (ok : Nat → Prop) (a b : Int) : k34.M w base ok ⟨a, b⟩ [.int .i64 a, .int .i64 b] := k34_mkM w base ok ⟨a, b⟩
theorem mc_take (n : Int) (L : List PP) (j : Nat) (h : j < L.length) : inL n (L.take (j + 1)) = inL n (L.take j) ++ (if (inB (rd_T34 L (j : Int)).f0 n && inB (rd_T34 L (j : Int)).f1 n) = true then [rd_T34 L (j : Int)] else []) := by
  rw [rdP_get L j h]
  unfold inL
  rw [List.take_add_one, List.getElem?_eq_getElem h, List.filter_append]
  congr 1
  show List.filter _ [L[j]] = _
  rw [List.filter_cons]
  rfl
theorem conn_lkL (L : List PP) (a b : Int) : Conn (lkL L) a b ↔ Conn L a b := by
  constructor
  · intro h
    induction h with
    | refl => exact .refl
    | fwd p _ hp ih =>
      obtain ⟨q, hq, _, rfl⟩ := (lkL_mem L p).1 hp
      dsimp only at ih ⊢
      rcases Int.le_total q.f0 q.f1 with h | h
      · rw [Int.min_eq_left h] at ih
        rw [Int.max_eq_right h]
        exact .fwd q ih hq
      · rw [Int.min_eq_right h] at ih
        rw [Int.max_eq_left h]
        exact .bwd q ih hq
    | bwd p _ hp ih =>
      obtain ⟨q, hq, _, rfl⟩ := (lkL_mem L p).1 hp
      dsimp only at ih ⊢
      rcases Int.le_total q.f0 q.f1 with h | h
      · rw [Int.max_eq_right h] at ih
        rw [Int.min_eq_left h]
        exact .bwd q ih hq
      · rw [Int.max_eq_left h] at ih
        rw [Int.min_eq_right h]
        exact .fwd q ih hq
  · intro h
    induction h with
    | refl => exact .refl
    | fwd q _ hq ih =>
      by_cases e : q.f0 = q.f1
      · rw [← e]; exact ih
      · have hm := (lkL_mem L ⟨min q.f0 q.f1, max q.f0 q.f1⟩).2 ⟨q, hq, e, rfl⟩
        rcases Int.le_total q.f0 q.f1 with h | h
        · rw [Int.min_eq_left h, Int.max_eq_right h] at hm
          exact .fwd ⟨q.f0, q.f1⟩ ih hm
        · rw [Int.min_eq_right h, Int.max_eq_left h] at hm
          exact .bwd ⟨q.f1, q.f0⟩ ih hm
    | bwd q _ hq ih =>
      by_cases e : q.f0 = q.f1
      · rw [e]; exact ih
      · have hm := (lkL_mem L ⟨min q.f0 q.f1, max q.f0 q.f1⟩).2 ⟨q, hq, e, rfl⟩
        rcases Int.le_total q.f0 q.f1 with h | h
        · rw [Int.min_eq_left h, Int.max_eq_right h] at hm
          exact .bwd ⟨q.f0, q.f1⟩ ih hm
        · rw [Int.min_eq_right h, Int.max_eq_left h] at hm
          exact .fwd ⟨q.f1, q.f0⟩ ih hm
theorem linkB_lkL (L : List PP) (a b : Int) : linkB (lkL L) a b = linkB L a b := by
  rw [Bool.eq_iff_iff, linkB_iff, linkB_iff, conn_lkL]
theorem okL_in (n : Int) (L : List PP) (h : okL L = true) : okL (inL n L) = true := by
  unfold okL at *
  rw [List.all_eq_true] at *
  exact fun p hp => h p (List.mem_filter.1 hp).1
theorem okL_lkL (L : List PP) (h : okL L = true) : okL (lkL L) = true := by
  unfold okL at *
  rw [List.all_eq_true] at *
  intro p hp
  obtain ⟨q, hq, _, rfl⟩ := (lkL_mem L p).1 hp
  have := h q hq
  rw [Bool.and_eq_true] at this ⊢
  dsimp only
  rcases Int.le_total q.f0 q.f1 with h | h
  · rw [Int.min_eq_left h, Int.max_eq_right h]
    exact this
  · rw [Int.min_eq_right h, Int.max_eq_left h]
    exact ⟨this.2, this.1⟩
theorem linked_f (L : List PP) (a b : Int) (hL : L.length ≤ 1000000) (hok : okL L = true) (h0 : 0 ≤ a) (h1 : a < 20) : match_Linked.f (2 * L.length + 2) L a b = some (linkB L a b) := by
  unfold match_Linked.f
  rw [if_pos ⟨hok, okI_of (by omega) (by omega), hL⟩]
  exact lkd_tells L a b hL
theorem less_f (x y : PP) : match_Less.f x.f0 x.f1 y.f0 y.f1 = some (ltP x y) := by
  unfold match_Less.f ltP
  by_cases h0 : x.f0 < y.f0
  · rw [if_pos h0, decide_eq_true h0]; rfl
  · rw [if_neg h0, decide_eq_false h0]
    by_cases h1 : x.f0 = y.f0
    · rw [if_pos h1, decide_eq_true h1]; rfl
    · rw [if_neg h1, decide_eq_false h1]; rfl
/-- What the classes' row tells. -/
theorem least_facts (L : List PP) (TT : List Int) (h : Least 20 L TT) (a b : Int) (a0 : 0 ≤ a) (a1 : a < 20) (b0 : 0 ≤ b) (b1 : b < 20) :
    (0 ≤ rd TT a ∧ rd TT a < 20) ∧ rd TT a ≤ a ∧ rd TT (rd TT a) = rd TT a ∧ (rd TT a = rd TT b ↔ Conn L a b) := by
  obtain ⟨p1, p2, p3⟩ := h.2 a a0 a1
  obtain ⟨q1, q2, q3⟩ := h.2 b b0 b1
  obtain ⟨r1, r2, r3⟩ := h.2 (rd TT a) p1.1 p1.2
  refine ⟨p1, p3 a a0 a1 .refl, ?_, fun e => ?_, fun e => ?_⟩
  · have h1 := r3 (rd TT a) p1.1 p1.2 .refl
    have h2 := p3 _ r1.1 r1.2 (p2.trans r2)
    omega
  · exact p2.trans (e ▸ q2.symm)
  · have h1 := p3 _ q1.1 q1.2 (e.trans q2)
    have h2 := q3 _ p1.1 p1.2 (e.symm.trans p2)
    omega
set_option maxHeartbeats 8000000 in
set_option maxRecDepth 100000 in
theorem oriellaw12_MatchClasses.calls (k : Nat) (A0 : Option Addr) (c0 : Nat) (l0 : List PP) (a1 a2 a3 : Int) (r : Bool) (w : World) (hr0 : Kd.C k34 w A0 l0.length l0) (hc0 : l0.length ≤ c0) (h : oriellaw12_MatchClasses.f k l0 a1 a2 a3 = some r) :
    Calls Try.prog 4 #[.slice A0 l0.length c0, .int .i64 a1, .int .i64 a2, .int .i64 a3] w fun e w' => e = .returned (.bool r) ∧ Below w.heap.size w w' := by
  have hu34 := Try.underlying34
  have hu22 := Try.underlying22
  have hu24 := Try.underlying24
  unfold oriellaw12_MatchClasses.f at h
  by_cases hall : okL l0 = true ∧ oriellaw12_alive.f k = some true
  · rw [if_pos hall] at h
    obtain rfl := Option.some.inj h
    clear h
    obtain ⟨hokL, hal⟩ := hall
    have HAL := Aside0.mk (fun W => oriellaw12_alive.calls k true W hal)
    have HOK := Lib.hid hokL
    clear hokL hal
    have HC0 := Aside0.mk hr0
    have hmx := Kd.C_max hr0
    have HBD := Aside0.mk (oriellaw12_bounded.calls A0 c0 l0 _ w hr0 hc0 rfl)
    clear hr0
    obtain ⟨n, hn⟩ : ∃ n, l0.length = n := ⟨_, rfl⟩
    rw [hn] at hmx hc0 HBD ⊢
    have HN := Lib.hid hn
    clear hn
    by_cases hfew : n ≤ 60
    · have hz : ((n : Int) ≤ 60) := by omega
      rw [decide_eq_true hz] at HBD
      clear hz
      obtain ⟨m1, m1'⟩ := mod20_in a1
      obtain ⟨m2, m2'⟩ := mod20_in a2
      obtain ⟨m3, m3'⟩ := mod20_in a3
      go_enter Try.func4, Try.ntmps4
      go_wp2_with fail
      refine HBD.out.mono ?_
      rintro e w1 ⟨rfl, hd⟩
      obtain ⟨nd, rfl⟩ := hd.out
      clear hd HBD
      go_wp2_with fail
      rw [mod20_wrap, mod20_wrap, mod20_wrap]
      generalize mod20 a1 = a at *
      generalize mod20 a2 = b at *
      generalize mod20 a3 = c at *
      have HB0 := Aside0.mk (pw_below_drewN (Below.refl w.heap.size w) nd)
      go_loopg [9, 11, 35] n (fun gg s9 _ s35 wr => ∃ j : Nat, s35 = .int .i64 j ∧ j ≤ n ∧ n - j ≤ gg ∧ Aside0 (Kd.R k34 34 wr w.heap.size (fun _ => True) s9 (inL 20 (l0.take j))) ∧ Aside0 (Below w.heap.size w wr))
      case atStart => exact ⟨0, rfl, by omega, by omega, ⟨Kd.R_nil _ _ _ _ _⟩, HB0⟩
      case round =>
        clear HB0
        obtain ⟨j, rfl, hj, hgj, HO, HB⟩ := hrel
        by_cases hlt : j < n
        · have hltz : (j : Int) < (n : Int) := by omega
          obtain ⟨ad1, ead1, hx0, hx1⟩ := at_T34 (Kd.C_below HC0.out HB.out) (j : Int) (by omega) (by rw [HN.out]; omega)
          rw [Int.toNat_natCast] at hx0 hx1
          have HSN := Lib.hid (mc_take 20 l0 j (by rw [HN.out]; exact hlt))
          have hll : (inL 20 (l0.take j)).length ≤ j := by
            unfold inL
            refine Nat.le_trans (List.length_filter_le _ _) ?_
            rw [List.length_take]
            omega
          obtain ⟨l, hl⟩ : ∃ l, inL 20 (l0.take j) = l := ⟨_, rfl⟩
          rw [hl] at HO HSN hll
          clear hl
          generalize rd_T34 l0 (j : Int) = x at hx0 hx1 HSN
          obtain ⟨p, q⟩ := x
          dsimp only at hx0 hx1 HSN
          cases ead1
          have HO2 := Aside0.mk (Kd.R_alloc HO.out (.cells #[.int .i64 p, .int .i64 q] 34))
          have HB2 := Aside0.mk (below_alloc HB.out (.cells #[.int .i64 p, .int .i64 q] 34))
          clear HO HB
          by_cases h0 : 0 ≤ p
          · by_cases h1 : p < 20
            · by_cases h2 : 0 ≤ q
              · by_cases h3 : q < 20
                · have HX := Lib.hid (show inL 20 (l0.take (j + 1)) = l ++ [⟨p, q⟩] by rw [HSN.out, if_pos (by simp [inB]; omega)])
                  clear HSN
                  go_wp2_with (at_builtin; refine Kd.R_append k34 (w0 := w) w.heap.size rfl _ _ 22 34 (.agg #[.int .i64 0, .int .i64 0]) 16 rfl Try.underlying22 rl_info rfl (by decide) (by decide) u9 l ⟨p, q⟩ [.int .i64 p, .int .i64 q] (fun _ => True) (fun _ => False) rfl (by rw [World.size_alloc]; rfl) (mc_tok _ _ _ _ _) (fun _ h_ => h_.elim) (fun _ _ => trivial) HO2.out HB2.out HB2.out.size ?hl ?hk)
                  case hl => omega
                  case hk =>
                    intro v1 w3 ho hb hgr hat
                    have HO3 := Aside0.mk ho
                    have HB3 := Aside0.mk hb
                    clear ho hb hgr hat
                    go_wp2_with fail
                    go_roundg (n - (j + 1))
                    case measure => omega
                    case rel => exact ⟨j + 1, by go_num, by omega, Nat.le_refl _, ⟨by rw [HX.out]; exact HO3.out⟩, HB3⟩
                · have HX := Lib.hid (show inL 20 (l0.take (j + 1)) = l by rw [HSN.out, if_neg (by simp [inB]; omega), List.append_nil])
                  clear HSN
                  go_wp2_with fail
                  go_roundg (n - (j + 1))
                  case measure => omega
                  case rel => exact ⟨j + 1, by go_num, by omega, Nat.le_refl _, ⟨by rw [HX.out]; exact HO2.out⟩, HB2⟩
              · have HX := Lib.hid (show inL 20 (l0.take (j + 1)) = l by rw [HSN.out, if_neg (by simp [inB]; omega), List.append_nil])
                clear HSN
                go_wp2_with fail
                go_roundg (n - (j + 1))
                case measure => omega
                case rel => exact ⟨j + 1, by go_num, by omega, Nat.le_refl _, ⟨by rw [HX.out]; exact HO2.out⟩, HB2⟩
            · have HX := Lib.hid (show inL 20 (l0.take (j + 1)) = l by rw [HSN.out, if_neg (by simp [inB]; omega), List.append_nil])
              clear HSN
              go_wp2_with fail
              go_roundg (n - (j + 1))
              case measure => omega
              case rel => exact ⟨j + 1, by go_num, by omega, Nat.le_refl _, ⟨by rw [HX.out]; exact HO2.out⟩, HB2⟩
          · have HX := Lib.hid (show inL 20 (l0.take (j + 1)) = l by rw [HSN.out, if_neg (by simp [inB]; omega), List.append_nil])
            clear HSN
            go_wp2_with fail
            go_roundg (n - (j + 1))
            case measure => omega
            case rel => exact ⟨j + 1, by go_num, by omega, Nat.le_refl _, ⟨by rw [HX.out]; exact HO2.out⟩, HB2⟩
        · have hltz : ¬ (j : Int) < (n : Int) := by omega
          obtain rfl : j = n := by omega
          have hall : inL 20 (l0.take j) = inL 20 l0 := by rw [List.take_of_length_le (by rw [HN.out]; exact Nat.le_refl _)]
          rw [hall] at HO
          clear hall
          obtain ⟨LI, hLI⟩ : ∃ LI, inL 20 l0 = LI := ⟨_, rfl⟩
          have hokI : okL LI = true := by rw [← hLI]; exact okL_in 20 l0 HOK.out
          have hlI : LI.length ≤ j := by rw [← hLI]; unfold inL; exact Nat.le_trans (List.length_filter_le _ _) (Nat.le_of_eq HN.out)
          obtain ⟨TT, hTT, hLeast⟩ : ∃ TT, match_Class.f 20 l0 = some TT ∧ Least 20 (inL 20 l0) TT := ⟨_, by unfold match_Class.f; rw [if_neg (by omega)]; rfl, cls_least 20 l0⟩
          have HCLS := Aside0.mk (match_Class.calls 20 A0 c0 l0 TT wr (Kd.C_below HC0.out HB.out) (by rw [HN.out]; exact hc0) hTT)
          rw [HN.out] at HCLS
          rw [hLI] at HO hLeast
          have hokM := okL_lkL LI hokI
          have hrise := lkL_rises LI
          have hlM := lkL_len LI
          have hlT := hLeast.1
          obtain ⟨f1, f2, f3, f4⟩ := least_facts LI TT hLeast a b m1 m1' m2 m2'
          obtain ⟨AI, cI, rfl⟩ := Kd.R_slice HO.out
          obtain ⟨-, hcI, hCI⟩ := Kd.R_reads' HO.out
          have HCI := Aside0.mk hCI
          have HHLI := Lib.hid hLI
          have HLE := Lib.hid hLeast
          have HOKI := Lib.hid hokI
          have HOKM := Lib.hid hokM
          have HRI := Lib.hid hrise
          have HF4 := Lib.hid f4
          clear hCI hTT hLI hLeast hokI hokM hrise f4 HC0 HOK
          go_wp2_with fail
          refine HCLS.out.mono ?_
          rintro e w4 ⟨vT, rfl, hoT, hb4⟩
          have HLK := Aside0.mk (match_Links.calls 0 AI cI LI (lkL LI) w4 (Kd.C_below HCI.out hb4) hcI (by unfold match_Links.f; rw [if_pos (by omega)]))
          have HCI4 := Aside0.mk (Kd.C_below HCI.out hb4)
          have HB4 := Aside0.mk (below_step HB.out hb4)
          have HOT := Aside0.mk hoT
          clear hoT hb4 HCLS HB HCI HO
          go_wp2_with fail
          refine HLK.out.mono ?_
          rintro e w5 ⟨vM, rfl, hoM, hb5⟩
          obtain ⟨AT, cT, rfl⟩ := Kd.R_slice HOT.out
          obtain ⟨AM, cM, rfl⟩ := Kd.R_slice hoM
          obtain ⟨-, hcM, hCM⟩ := Kd.R_reads' hoM
          obtain ⟨-, hcT, hCT⟩ := Kd.R_reads' HOT.out
          rw [hlT] at hCT hcT ⊢
          have HCT := Aside0.mk (Kd.C_below hCT hb5)
          have HCM := Aside0.mk hCM
          have HCI := Aside0.mk (Kd.C_below HCI4.out hb5)
          have HB5 := Aside0.mk (below_step HB4.out hb5)
          clear hoM hb5 hCM hCT HLK HCI4 HB4 HOT
          obtain ⟨adT, eT, ha⟩ := Kd.at_int HCT.out a m1 m1'
          cases eT
          obtain ⟨_, eT, hbb⟩ := Kd.at_int HCT.out b m2 m2'
          cases eT
          obtain ⟨_, eT, hta⟩ := Kd.at_int HCT.out (rd TT a) f1.1 f1.2
          cases eT
          rw [f3] at hta
          obtain ⟨ta, hta'⟩ : ∃ ta, rd TT a = ta := ⟨_, rfl⟩
          obtain ⟨tb, htb'⟩ : ∃ tb, rd TT b = tb := ⟨_, rfl⟩
          rw [hta'] at ha hta f1 f2 HF4
          rw [htb'] at hbb HF4
          obtain ⟨t0, t1⟩ := f1
          have ht2 : ¬ ta < 0 := by omega
          have ht3 : ¬ (20 : Int) ≤ ta := by omega
          have HA := Lib.hid ha
          have HBB := Lib.hid hbb
          have HTA := Lib.hid hta
          clear hbb hta f3 hta' htb'
          go_wp2_with fail
          obtain ⟨nM, hnM⟩ : ∃ nM, (lkL LI).length = nM := ⟨_, rfl⟩
          rw [hnM] at hlM hcM HCM ⊢
          have HNM := Lib.hid hnM
          clear hnM
          have HSTART := Aside0.mk (Below.refl w5.heap.size w5)
          go_loopg [14] nM (fun gg s14 wr => ∃ i : Nat, s14 = .int .i64 i ∧ 1 ≤ i ∧ i ≤ nM + 1 ∧ nM + 1 - i ≤ gg ∧ Aside0 (Below w5.heap.size w5 wr))
          case atStart => exact ⟨1, by go_num, by omega, by omega, by omega, HSTART⟩
          case round =>
            clear HSTART
            obtain ⟨i, rfl, hi1, hi2, hgi, HBZ⟩ := hrel
            by_cases hlt2 : i < nM
            · have hltz2 : (i : Int) < (nM : Int) := by omega
              have hdec : IntKind.i64.wrap ((i : Int) - 1) = ((i - 1 : Nat) : Int) := by rw [IntWalk.i64_in _ (by omega)]; omega
              have hz0 : (0 : Int) ≤ ((i - 1 : Nat) : Int) := by omega
              have hz1 : ((i - 1 : Nat) : Int) < (nM : Int) := by omega
              have hcm : Kd.C k34 wr AM (lkL LI).length (lkL LI) := by rw [HNM.out]; exact Kd.C_below HCM.out HBZ.out
              obtain ⟨adM, eM, hx0, hx1⟩ := at_T34 hcm ((i - 1 : Nat) : Int) (by omega) (by rw [HNM.out]; omega)
              obtain ⟨_, eM2, hy0, hy1⟩ := at_T34 hcm (i : Int) (by omega) (by rw [HNM.out]; omega)
              rw [Int.toNat_natCast] at hx0 hx1 hy0 hy1
              have hrd0 := rdP_get (lkL LI) (i - 1) (by rw [HNM.out]; omega)
              have hrd1 := rdP_get (lkL LI) i (by rw [HNM.out]; omega)
              have hlt3 : ltP (rd_T34 (lkL LI) ((i - 1 : Nat) : Int)) (rd_T34 (lkL LI) (i : Int)) = true := by
                rw [hrd0, hrd1]
                exact List.pairwise_iff_getElem.1 HRI.out (i - 1) i _ _ (by omega)
              generalize rd_T34 (lkL LI) ((i - 1 : Nat) : Int) = x at hx0 hx1 hlt3
              generalize rd_T34 (lkL LI) (i : Int) = y at hy0 hy1 hlt3
              have hlt4 : ltP y x = false := by
                rw [← Bool.not_eq_true, ltP_lt]
                rw [ltP_lt] at hlt3
                omega
              have hle1 := less_f x y
              have hle2 := less_f y x
              rw [hlt3] at hle1
              rw [hlt4] at hle2
              obtain ⟨p, q⟩ := x
              obtain ⟨s, t⟩ := y
              dsimp only at hx0 hx1 hy0 hy1 hle1 hle2
              have HL1 := Aside0.mk (fun W => match_Less.calls p q s t true W hle1)
              have HL2 := Aside0.mk (fun W => match_Less.calls s t p q false W hle2)
              cases eM
              cases eM2
              have HX0 := Lib.hid hx0
              have HX1 := Lib.hid hx1
              have HY0 := Lib.hid hy0
              have HY1 := Lib.hid hy1
              have HBD := Aside0.mk (below_drew (Below.refl wr.heap.size wr))
              have HCD := Aside0.mk (show (wr.drew.cell? (adM.add ((i - 1) * 2)) = some (.int .i64 p) ∧ wr.drew.cell? ⟨(adM.add ((i - 1) * 2)).block, (adM.add ((i - 1) * 2)).off + 1, none⟩ = some (.int .i64 q)) ∧ wr.drew.cell? (adM.add (i * 2)) = some (.int .i64 s) ∧ wr.drew.cell? ⟨(adM.add (i * 2)).block, (adM.add (i * 2)).off + 1, none⟩ = some (.int .i64 t) from ⟨⟨hx0, hx1⟩, hy0, hy1⟩)
              have HKEEP := Aside0.mk (fun (W : World) (hb : Below wr.heap.size wr W) => (show (W.cell? (adM.add ((i - 1) * 2)) = some (.int .i64 p) ∧ W.cell? ⟨(adM.add ((i - 1) * 2)).block, (adM.add ((i - 1) * 2)).off + 1, none⟩ = some (.int .i64 q)) ∧ W.cell? (adM.add (i * 2)) = some (.int .i64 s) ∧ W.cell? ⟨(adM.add (i * 2)).block, (adM.add (i * 2)).off + 1, none⟩ = some (.int .i64 t) from ⟨⟨pw_cell_below hb hx0, pw_cell_below hb hx1⟩, pw_cell_below hb hy0, pw_cell_below hb hy1⟩))
              clear HX0 HX1 HY0 HY1 hx0 hx1 hy0 hy1 hcm hrd0 hrd1 hlt3 hlt4 hle1 hle2
              go_wp2_with fail
              go_region_held3 (fun w' => Below wr.heap.size wr w' ∧ (w'.cell? (adM.add ((i - 1) * 2)) = some (.int .i64 p) ∧ w'.cell? ⟨(adM.add ((i - 1) * 2)).block, (adM.add ((i - 1) * 2)).off + 1, none⟩ = some (.int .i64 q)) ∧ w'.cell? (adM.add (i * 2)) = some (.int .i64 s) ∧ w'.cell? ⟨(adM.add (i * 2)).block, (adM.add (i * 2)).off + 1, none⟩ = some (.int .i64 t))
                (first | with_reducible exact ⟨HBW.out, HKEEP.out _ HBW.out⟩ | with_reducible exact ⟨HBD.out, HCD.out⟩)
                (first
                  | (go_at_call 23; with_reducible refine (HL1.out _).mono ?_; rintro e w7 ⟨rfl, hb7⟩; have HBW := Aside0.mk (below_step HBD.out hb7); clear hb7)
                  | (go_at_call 23; with_reducible refine (HL1.out _).mono ?_; rintro e w7 ⟨rfl, hb7⟩; have HBW := Aside0.mk (below_step HBW.out hb7); clear hb7)
                  | (go_at_call 23; with_reducible refine (HL2.out _).mono ?_; rintro e w7 ⟨rfl, hb7⟩; have HBW := Aside0.mk (below_step HBD.out hb7); clear hb7)
                  | (go_at_call 23; with_reducible refine (HL2.out _).mono ?_; rintro e w7 ⟨rfl, hb7⟩; have HBW := Aside0.mk (below_step HBW.out hb7); clear hb7))
              all_goals
                have HBN := Aside0.mk (below_step HBZ.out HBW.out)
                clear HBW HBD HCD HKEEP HBZ HL1 HL2
                go_wp2_with fail
                go_roundg (nM + 1 - (i + 1))
                case measure => omega
                case rel => exact ⟨i + 1, by go_num, by omega, by omega, Nat.le_refl _, HBN⟩
            · have hltz2 : ¬ (i : Int) < (nM : Int) := by omega
              have LKab := Aside0.mk (show ∀ W : World, Below w5.heap.size w5 W → Calls Try.prog 21 #[.slice AI LI.length cI, .int .i64 a, .int .i64 b] W fun e w' => e = .returned (.bool (linkB LI a b)) ∧ Below W.heap.size W w' from fun W hb => match_Linked.calls (2 * LI.length + 2) AI cI LI a b _ W (Kd.C_below HCI.out hb) hcI (linked_f LI a b (by omega) HOKI.out m1 m1'))
              have LKbc := Aside0.mk (show ∀ W : World, Below w5.heap.size w5 W → Calls Try.prog 21 #[.slice AI LI.length cI, .int .i64 b, .int .i64 c] W fun e w' => e = .returned (.bool (linkB LI b c)) ∧ Below W.heap.size W w' from fun W hb => match_Linked.calls (2 * LI.length + 2) AI cI LI b c _ W (Kd.C_below HCI.out hb) hcI (linked_f LI b c (by omega) HOKI.out m2 m2'))
              have LKba := Aside0.mk (show ∀ W : World, Below w5.heap.size w5 W → Calls Try.prog 21 #[.slice AI LI.length cI, .int .i64 b, .int .i64 a] W fun e w' => e = .returned (.bool (linkB LI a b)) ∧ Below W.heap.size W w' from fun W hb => match_Linked.calls (2 * LI.length + 2) AI cI LI b a _ W (Kd.C_below HCI.out hb) hcI (by rw [linkB_symm LI a b]; exact linked_f LI b a (by omega) HOKI.out m2 m2'))
              have LKac := Aside0.mk (show ∀ W : World, Below w5.heap.size w5 W → Calls Try.prog 21 #[.slice AI LI.length cI, .int .i64 a, .int .i64 c] W fun e w' => e = .returned (.bool (linkB LI a c)) ∧ Below W.heap.size W w' from fun W hb => match_Linked.calls (2 * LI.length + 2) AI cI LI a c _ W (Kd.C_below HCI.out hb) hcI (linked_f LI a c (by omega) HOKI.out m1 m1'))
              have LMab := Aside0.mk (show ∀ W : World, Below w5.heap.size w5 W → Calls Try.prog 21 #[.slice AM nM cM, .int .i64 a, .int .i64 b] W fun e w' => e = .returned (.bool (linkB LI a b)) ∧ Below W.heap.size W w' from fun W hb => by
                have := match_Linked.calls (2 * (lkL LI).length + 2) AM cM (lkL LI) a b _ W (by rw [HNM.out]; exact Kd.C_below HCM.out hb) (by rw [HNM.out]; exact hcM) (linked_f (lkL LI) a b (by rw [HNM.out]; omega) HOKM.out m1 m1')
                rw [linkB_lkL, HNM.out] at this
                exact this)
              have htr : linkB LI a b = true → linkB LI b c = true → linkB LI a c = true := fun h1 h2 => linkB_iff.2 ((linkB_iff.1 h1).trans (linkB_iff.1 h2))
              have hbx : (ta == tb) = linkB LI a b := by rw [Bool.eq_iff_iff, linkB_iff, beq_iff_eq]; exact HF4.out
              obtain ⟨x, hx⟩ : ∃ x, linkB LI a b = x := ⟨_, rfl⟩
              obtain ⟨y, hy⟩ : ∃ y, linkB LI b c = y := ⟨_, rfl⟩
              obtain ⟨z, hz⟩ : ∃ z, linkB LI a c = z := ⟨_, rfl⟩
              rw [hx] at LKab LKba LMab htr hbx
              rw [hy] at LKbc htr
              rw [hz] at LKac htr
              clear hx hy hz HF4
              go_wp2_with fail
              refine (LKab.out _ HBZ.out).mono ?_
              rintro e w6 ⟨rfl, hb6⟩
              have HB6 := Aside0.mk (below_step HBZ.out hb6)
              clear hb6 HBZ
              go_wp2_with fail
              refine (LKbc.out _ HB6.out).mono ?_
              rintro e w7 ⟨rfl, hb7⟩
              have HB7 := Aside0.mk (below_step HB6.out hb7)
              clear hb7 HB6 LKab LKbc
              have HCells := Aside0.mk (fun (W : World) (hb : Below w5.heap.size w5 W) => (show W.cell? (adT.add a.toNat) = some (.int .i64 ta) ∧ W.cell? (adT.add b.toNat) = some (.int .i64 tb) ∧ W.cell? (adT.add ta.toNat) = some (.int .i64 ta) from ⟨pw_cell_below hb HA.out, pw_cell_below hb HBB.out, pw_cell_below hb HTA.out⟩))
              have HB8 := Aside0.mk (below_drew HB7.out)
              have HC8 := Aside0.mk (HCells.out w7.drew HB8.out)
              go_wp2_with fail
              simp only [List.append_eq, List.cons_append, List.nil_append]
              cases x with
              | false =>
                refine wp_region_held_drew (S := (fun w' => Below w5.heap.size w5 w' ∧ w'.cell? (adT.add a.toNat) = some (.int .i64 ta) ∧ w'.cell? (adT.add b.toNat) = some (.int .i64 tb) ∧ w'.cell? (adT.add ta.toNat) = some (.int .i64 ta))) (by kernel_rfl) ⟨HB8.out, HC8.out⟩ (fun hHeld => ?_)
                refine wpAnyH_take (i := 0) (oi := ?oF0) (v := ?vF0) ?hiF0 (by kernel_rfl) (by kernel_rfl) (by kernel_rfl) ?hQF0 ?hyF0 (by assumption) ?restF0
                case hiF0 => simp only [List.size_toArray, List.length_cons, List.length_nil, List.getElem?_toArray, List.getElem?_cons_succ, List.getElem?_cons_zero] <;> rfl
                case hQF0 => exact fun _ _ _ h => h
                case hyF0 => exact Or.inl ⟨by kernel_rfl, by intro w hSw; (try dsimp only at hSw); go_simp; first | done | with_reducible rfl⟩
                case restF0 =>
                  try simp only [Act.put, List.setIfInBounds_toArray, List.set_cons_zero, List.set_cons_succ]
                  refine wpAnyH_take (i := 1) (oi := ?oF1) (v := ?vF1) ?hiF1 (by kernel_rfl) (by kernel_rfl) (by kernel_rfl) ?hQF1 ?hyF1 (by assumption) ?restF1
                  case hiF1 => simp only [List.size_toArray, List.length_cons, List.length_nil, List.getElem?_toArray, List.getElem?_cons_succ, List.getElem?_cons_zero] <;> rfl
                  case hQF1 => exact fun _ _ _ h => h
                  case hyF1 => exact Or.inl ⟨by kernel_rfl, by intro w hSw; (try dsimp only at hSw); go_simp; first | done | with_reducible rfl⟩
                  case restF1 =>
                    try simp only [Act.put, List.setIfInBounds_toArray, List.set_cons_zero, List.set_cons_succ]
                    refine wpAnyH_take (i := 2) (oi := ?oF2) (v := ?vF2) ?hiF2 (by kernel_rfl) (by kernel_rfl) (by kernel_rfl) ?hQF2 ?hyF2 (by assumption) ?restF2
                    case hiF2 => simp only [List.size_toArray, List.length_cons, List.length_nil, List.getElem?_toArray, List.getElem?_cons_succ, List.getElem?_cons_zero] <;> rfl
                    case hQF2 => exact fun _ _ _ h => h
                    case hyF2 => exact Or.inl ⟨by kernel_rfl, by intro w hSw; (try dsimp only at hSw); go_simp; first | done | with_reducible rfl⟩
                    case restF2 =>
                      try simp only [Act.put, List.setIfInBounds_toArray, List.set_cons_zero, List.set_cons_succ]
                      refine wpAnyH_take (i := 3) (oi := ?oF3) (v := ?vF3) ?hiF3 (by kernel_rfl) (by kernel_rfl) (by kernel_rfl) ?hQF3 ?hyF3 (by assumption) ?restF3
                      case hiF3 => simp only [List.size_toArray, List.length_cons, List.length_nil, List.getElem?_toArray, List.getElem?_cons_succ, List.getElem?_cons_zero] <;> rfl
                      case hQF3 => exact fun _ _ _ h => h
                      case hyF3 => exact Or.inl ⟨by kernel_rfl, by intro w hSw; (try dsimp only at hSw); go_simp; first | done | with_reducible rfl⟩
                      case restF3 =>
                        try simp only [Act.put, List.setIfInBounds_toArray, List.set_cons_zero, List.set_cons_succ]
                        refine wpAnyH_ready (rs := [4]) (by kernel_rfl) (by simp) (AllReadyH.cons (o := ?oF4) ?hiF4 (fun K hK => ?stepF4) AllReadyH.nil)
                        case hiF4 => simp only [List.size_toArray, List.length_cons, List.length_nil, List.getElem?_toArray, List.getElem?_cons_succ, List.getElem?_cons_zero] <;> rfl
                        case stepF4 =>
                          go_simp
                          (go_at_call 21; with_reducible refine (LKba.out _ HB8.out).mono ?_; rintro e w9 ⟨rfl, hb9⟩; have HBW := Aside0.mk (below_step HB8.out hb9); clear hb9)
                          go_wp2_with fail
                          refine hK.out _ _ ?hSF4 (fun hHeld => ?restF4)
                          case hSF4 => with_reducible exact ⟨HBW.out, HCells.out _ HBW.out⟩
                          case restF4 =>
                            clear hK K
                            try simp only [Act.put, List.setIfInBounds_toArray, List.set_cons_zero, List.set_cons_succ]
                            refine wpAnyH_take (i := 5) (oi := ?oF5) (v := ?vF5) ?hiF5 (by kernel_rfl) (by kernel_rfl) (by kernel_rfl) ?hQF5 ?hyF5 (by assumption) ?restF5
                            case hiF5 => simp only [List.size_toArray, List.length_cons, List.length_nil, List.getElem?_toArray, List.getElem?_cons_succ, List.getElem?_cons_zero] <;> rfl
                            case hQF5 => exact fun _ _ _ h => h
                            case hyF5 => exact Or.inl ⟨by kernel_rfl, by intro w hSw; (try dsimp only at hSw); go_simp; first | done | with_reducible rfl⟩
                            case restF5 =>
                              try simp only [Act.put, List.setIfInBounds_toArray, List.set_cons_zero, List.set_cons_succ]
                              refine wpAnyH_take (i := 6) (oi := ?oF6) (v := ?vF6) ?hiF6 (by kernel_rfl) (by kernel_rfl) (by kernel_rfl) ?hQF6 ?hyF6 (by assumption) ?restF6
                              case hiF6 => simp only [List.size_toArray, List.length_cons, List.length_nil, List.getElem?_toArray, List.getElem?_cons_succ, List.getElem?_cons_zero] <;> rfl
                              case hQF6 => exact fun _ _ _ h => h
                              case hyF6 => exact Or.inl ⟨by kernel_rfl, by intro w hSw; (try dsimp only at hSw); go_simp; first | done | with_reducible rfl⟩
                              case restF6 =>
                                try simp only [Act.put, List.setIfInBounds_toArray, List.set_cons_zero, List.set_cons_succ]
                                refine wpAnyH_take (i := 7) (oi := ?oF7) (v := ?vF7) ?hiF7 (by kernel_rfl) (by kernel_rfl) (by kernel_rfl) ?hQF7 ?hyF7 (by assumption) ?restF7
                                case hiF7 => simp only [List.size_toArray, List.length_cons, List.length_nil, List.getElem?_toArray, List.getElem?_cons_succ, List.getElem?_cons_zero] <;> rfl
                                case hQF7 => exact fun _ _ _ h => h
                                case hyF7 => exact Or.inl ⟨by kernel_rfl, by intro w hSw; (try dsimp only at hSw); go_simp; first | done | with_reducible rfl⟩
                                case restF7 =>
                                  try simp only [Act.put, List.setIfInBounds_toArray, List.set_cons_zero, List.set_cons_succ]
                                  refine wpAnyH_take (i := 8) (oi := ?oF8) (v := ?vF8) ?hiF8 (by kernel_rfl) (by kernel_rfl) (by kernel_rfl) ?hQF8 ?hyF8 (by assumption) ?restF8
                                  case hiF8 => simp only [List.size_toArray, List.length_cons, List.length_nil, List.getElem?_toArray, List.getElem?_cons_succ, List.getElem?_cons_zero] <;> rfl
                                  case hQF8 => exact fun _ _ _ h => h
                                  case hyF8 => exact Or.inl ⟨by kernel_rfl, by intro w hSw; (try dsimp only at hSw); go_simp; first | done | with_reducible rfl⟩
                                  case restF8 =>
                                    try simp only [Act.put, List.setIfInBounds_toArray, List.set_cons_zero, List.set_cons_succ]
                                    refine wpAnyH_take (i := 9) (oi := ?oF9) (v := ?vF9) ?hiF9 (by kernel_rfl) (by kernel_rfl) (by kernel_rfl) ?hQF9 ?hyF9 (by assumption) ?restF9
                                    case hiF9 => simp only [List.size_toArray, List.length_cons, List.length_nil, List.getElem?_toArray, List.getElem?_cons_succ, List.getElem?_cons_zero] <;> rfl
                                    case hQF9 => exact fun _ _ _ h => h
                                    case hyF9 => exact Or.inl ⟨by kernel_rfl, by intro w hSw; (try dsimp only at hSw); go_simp; first | done | with_reducible rfl⟩
                                    case restF9 =>
                                      try simp only [Act.put, List.setIfInBounds_toArray, List.set_cons_zero, List.set_cons_succ]
                                      refine wpAnyH_take (i := 10) (oi := ?oF10) (v := undef) ?hiF10 (by kernel_rfl) (by kernel_rfl) (by kernel_rfl) ?hQF10 ?hyF10 (by assumption) ?restF10
                                      case hiF10 => simp only [List.size_toArray, List.length_cons, List.length_nil, List.getElem?_toArray, List.getElem?_cons_succ, List.getElem?_cons_zero] <;> rfl
                                      case hQF10 => exact fun _ _ _ h => h
                                      case hyF10 => exact Or.inr ⟨by kernel_rfl, rfl⟩
                                      case restF10 =>
                                        try simp only [Act.put, List.setIfInBounds_toArray, List.set_cons_zero, List.set_cons_succ]
                                        refine wpAnyH_take (i := 11) (oi := ?oF11) (v := undef) ?hiF11 (by kernel_rfl) (by kernel_rfl) (by kernel_rfl) ?hQF11 ?hyF11 (by assumption) ?restF11
                                        case hiF11 => simp only [List.size_toArray, List.length_cons, List.length_nil, List.getElem?_toArray, List.getElem?_cons_succ, List.getElem?_cons_zero] <;> rfl
                                        case hQF11 => exact fun _ _ _ h => h
                                        case hyF11 => exact Or.inr ⟨by kernel_rfl, rfl⟩
                                        case restF11 =>
                                          try simp only [Act.put, List.setIfInBounds_toArray, List.set_cons_zero, List.set_cons_succ]
                                          refine wpAnyH_take (i := 12) (oi := ?oF12) (v := ?vF12) ?hiF12 (by kernel_rfl) (by kernel_rfl) (by kernel_rfl) ?hQF12 ?hyF12 (by assumption) ?restF12
                                          case hiF12 => simp only [List.size_toArray, List.length_cons, List.length_nil, List.getElem?_toArray, List.getElem?_cons_succ, List.getElem?_cons_zero] <;> rfl
                                          case hQF12 => exact fun _ _ _ h => h
                                          case hyF12 => exact Or.inl ⟨by kernel_rfl, by intro w hSw; (try dsimp only at hSw); go_simp; first | done | with_reducible rfl⟩
                                          case restF12 =>
                                            try simp only [Act.put, List.setIfInBounds_toArray, List.set_cons_zero, List.set_cons_succ]
                                            refine wpAnyH_take (i := 13) (oi := ?oF13) (v := ?vF13) ?hiF13 (by kernel_rfl) (by kernel_rfl) (by kernel_rfl) ?hQF13 ?hyF13 (by assumption) ?restF13
                                            case hiF13 => simp only [List.size_toArray, List.length_cons, List.length_nil, List.getElem?_toArray, List.getElem?_cons_succ, List.getElem?_cons_zero] <;> rfl
                                            case hQF13 => exact fun _ _ _ h => h
                                            case hyF13 => exact Or.inl ⟨by kernel_rfl, by intro w hSw; (try dsimp only at hSw); go_simp; first | done | with_reducible rfl⟩
                                            case restF13 =>
                                              try simp only [Act.put, List.setIfInBounds_toArray, List.set_cons_zero, List.set_cons_succ]
                                              refine wpAnyH_take (i := 14) (oi := ?oF14) (v := undef) ?hiF14 (by kernel_rfl) (by kernel_rfl) (by kernel_rfl) ?hQF14 ?hyF14 (by assumption) ?restF14
                                              case hiF14 => simp only [List.size_toArray, List.length_cons, List.length_nil, List.getElem?_toArray, List.getElem?_cons_succ, List.getElem?_cons_zero] <;> rfl
                                              case hQF14 => exact fun _ _ _ h => h
                                              case hyF14 => exact Or.inr ⟨by kernel_rfl, rfl⟩
                                              case restF14 =>
                                                try simp only [Act.put, List.setIfInBounds_toArray, List.set_cons_zero, List.set_cons_succ]
                                                refine wpAnyH_take (i := 15) (oi := ?oF15) (v := undef) ?hiF15 (by kernel_rfl) (by kernel_rfl) (by kernel_rfl) ?hQF15 ?hyF15 (by assumption) ?restF15
                                                case hiF15 => simp only [List.size_toArray, List.length_cons, List.length_nil, List.getElem?_toArray, List.getElem?_cons_succ, List.getElem?_cons_zero] <;> rfl
                                                case hQF15 => exact fun _ _ _ h => h
                                                case hyF15 => exact Or.inr ⟨by kernel_rfl, rfl⟩
                                                case restF15 =>
                                                  try simp only [Act.put, List.setIfInBounds_toArray, List.set_cons_zero, List.set_cons_succ]
                                                  refine wpAnyH_take (i := 16) (oi := ?oF16) (v := undef) ?hiF16 (by kernel_rfl) (by kernel_rfl) (by kernel_rfl) ?hQF16 ?hyF16 (by assumption) ?restF16
                                                  case hiF16 => simp only [List.size_toArray, List.length_cons, List.length_nil, List.getElem?_toArray, List.getElem?_cons_succ, List.getElem?_cons_zero] <;> rfl
                                                  case hQF16 => exact fun _ _ _ h => h
                                                  case hyF16 => exact Or.inr ⟨by kernel_rfl, rfl⟩
                                                  case restF16 =>
                                                    try simp only [Act.put, List.setIfInBounds_toArray, List.set_cons_zero, List.set_cons_succ]
                                                    refine wpAnyH_take (i := 17) (oi := ?oF17) (v := undef) ?hiF17 (by kernel_rfl) (by kernel_rfl) (by kernel_rfl) ?hQF17 ?hyF17 (by assumption) ?restF17
                                                    case hiF17 => simp only [List.size_toArray, List.length_cons, List.length_nil, List.getElem?_toArray, List.getElem?_cons_succ, List.getElem?_cons_zero] <;> rfl
                                                    case hQF17 => exact fun _ _ _ h => h
                                                    case hyF17 => exact Or.inr ⟨by kernel_rfl, rfl⟩
                                                    case restF17 =>
                                                      try simp only [Act.put, List.setIfInBounds_toArray, List.set_cons_zero, List.set_cons_succ]
                                                      refine wpAnyH_take (i := 18) (oi := ?oF18) (v := ?vF18) ?hiF18 (by kernel_rfl) (by kernel_rfl) (by kernel_rfl) ?hQF18 ?hyF18 (by assumption) ?restF18
                                                      case hiF18 => simp only [List.size_toArray, List.length_cons, List.length_nil, List.getElem?_toArray, List.getElem?_cons_succ, List.getElem?_cons_zero] <;> rfl
                                                      case hQF18 => exact fun _ _ _ h => h
                                                      case hyF18 => exact Or.inl ⟨by kernel_rfl, by intro w hSw; (try dsimp only at hSw); go_simp; first | done | with_reducible rfl⟩
                                                      case restF18 =>
                                                        try simp only [Act.put, List.setIfInBounds_toArray, List.set_cons_zero, List.set_cons_succ]
                                                        refine wpAnyH_take (i := 19) (oi := ?oF19) (v := ?vF19) ?hiF19 (by kernel_rfl) (by kernel_rfl) (by kernel_rfl) ?hQF19 ?hyF19 (by assumption) ?restF19
                                                        case hiF19 => simp only [List.size_toArray, List.length_cons, List.length_nil, List.getElem?_toArray, List.getElem?_cons_succ, List.getElem?_cons_zero] <;> rfl
                                                        case hQF19 => exact fun _ _ _ h => h
                                                        case hyF19 => exact Or.inl ⟨by kernel_rfl, by intro w hSw; (try dsimp only at hSw); go_simp; first | done | with_reducible rfl⟩
                                                        case restF19 =>
                                                          try simp only [Act.put, List.setIfInBounds_toArray, List.set_cons_zero, List.set_cons_succ]
                                                          refine wpAnyH_take (i := 20) (oi := ?oF20) (v := ?vF20) ?hiF20 (by kernel_rfl) (by kernel_rfl) (by kernel_rfl) ?hQF20 ?hyF20 (by assumption) ?restF20
                                                          case hiF20 => simp only [List.size_toArray, List.length_cons, List.length_nil, List.getElem?_toArray, List.getElem?_cons_succ, List.getElem?_cons_zero] <;> rfl
                                                          case hQF20 => exact fun _ _ _ h => h
                                                          case hyF20 => exact Or.inl ⟨by kernel_rfl, by intro w hSw; (try dsimp only at hSw); go_simp; first | done | with_reducible rfl⟩
                                                          case restF20 =>
                                                            try simp only [Act.put, List.setIfInBounds_toArray, List.set_cons_zero, List.set_cons_succ]
                                                            refine wpAnyH_take (i := 21) (oi := ?oF21) (v := ?vF21) ?hiF21 (by kernel_rfl) (by kernel_rfl) (by kernel_rfl) ?hQF21 ?hyF21 (by assumption) ?restF21
                                                            case hiF21 => simp only [List.size_toArray, List.length_cons, List.length_nil, List.getElem?_toArray, List.getElem?_cons_succ, List.getElem?_cons_zero] <;> rfl
                                                            case hQF21 => exact fun _ _ _ h => h
                                                            case hyF21 => exact Or.inl ⟨by kernel_rfl, by intro w hSw; (try dsimp only at hSw); go_simp; first | done | with_reducible rfl⟩
                                                            case restF21 =>
                                                              try simp only [Act.put, List.setIfInBounds_toArray, List.set_cons_zero, List.set_cons_succ]
                                                              refine wpAnyH_take (i := 22) (oi := ?oF22) (v := ?vF22) ?hiF22 (by kernel_rfl) (by kernel_rfl) (by kernel_rfl) ?hQF22 ?hyF22 (by assumption) ?restF22
                                                              case hiF22 => simp only [List.size_toArray, List.length_cons, List.length_nil, List.getElem?_toArray, List.getElem?_cons_succ, List.getElem?_cons_zero] <;> rfl
                                                              case hQF22 => exact fun _ _ _ h => h
                                                              case hyF22 => exact Or.inl ⟨by kernel_rfl, by intro w hSw; (try dsimp only at hSw); go_simp; first | done | with_reducible rfl⟩
                                                              case restF22 =>
                                                                try simp only [Act.put, List.setIfInBounds_toArray, List.set_cons_zero, List.set_cons_succ]
                                                                refine wpAnyH_take (i := 23) (oi := ?oF23) (v := ?vF23) ?hiF23 (by kernel_rfl) (by kernel_rfl) (by kernel_rfl) ?hQF23 ?hyF23 (by assumption) ?restF23
                                                                case hiF23 => simp only [List.size_toArray, List.length_cons, List.length_nil, List.getElem?_toArray, List.getElem?_cons_succ, List.getElem?_cons_zero] <;> rfl
                                                                case hQF23 => exact fun _ _ _ h => h
                                                                case hyF23 => exact Or.inl ⟨by kernel_rfl, by intro w hSw; (try dsimp only at hSw); go_simp; first | done | with_reducible rfl⟩
                                                                case restF23 =>
                                                                  try simp only [Act.put, List.setIfInBounds_toArray, List.set_cons_zero, List.set_cons_succ]
                                                                  refine wpAnyH_take (i := 24) (oi := ?oF24) (v := ?vF24) ?hiF24 (by kernel_rfl) (by kernel_rfl) (by kernel_rfl) ?hQF24 ?hyF24 (by assumption) ?restF24
                                                                  case hiF24 => simp only [List.size_toArray, List.length_cons, List.length_nil, List.getElem?_toArray, List.getElem?_cons_succ, List.getElem?_cons_zero] <;> rfl
                                                                  case hQF24 => exact fun _ _ _ h => h
                                                                  case hyF24 => exact Or.inl ⟨by kernel_rfl, by intro w hSw; (try dsimp only at hSw); go_simp; first | done | with_reducible rfl⟩
                                                                  case restF24 =>
                                                                    try simp only [Act.put, List.setIfInBounds_toArray, List.set_cons_zero, List.set_cons_succ]
                                                                    refine wpAnyH_take (i := 25) (oi := ?oF25) (v := ?vF25) ?hiF25 (by kernel_rfl) (by kernel_rfl) (by kernel_rfl) ?hQF25 ?hyF25 (by assumption) ?restF25
                                                                    case hiF25 => simp only [List.size_toArray, List.length_cons, List.length_nil, List.getElem?_toArray, List.getElem?_cons_succ, List.getElem?_cons_zero] <;> rfl
                                                                    case hQF25 => exact fun _ _ _ h => h
                                                                    case hyF25 => exact Or.inl ⟨by kernel_rfl, by intro w hSw; (try dsimp only at hSw); go_simp; first | done | with_reducible rfl⟩
                                                                    case restF25 =>
                                                                      try simp only [Act.put, List.setIfInBounds_toArray, List.set_cons_zero, List.set_cons_succ]
                                                                      refine wpAnyH_take (i := 26) (oi := ?oF26) (v := ?vF26) ?hiF26 (by kernel_rfl) (by kernel_rfl) (by kernel_rfl) ?hQF26 ?hyF26 (by assumption) ?restF26
                                                                      case hiF26 => simp only [List.size_toArray, List.length_cons, List.length_nil, List.getElem?_toArray, List.getElem?_cons_succ, List.getElem?_cons_zero] <;> rfl
                                                                      case hQF26 => exact fun _ _ _ h => h
                                                                      case hyF26 => exact Or.inl ⟨by kernel_rfl, by intro w hSw; (try dsimp only at hSw); go_simp; first | done | with_reducible rfl⟩
                                                                      case restF26 =>
                                                                        try simp only [Act.put, List.setIfInBounds_toArray, List.set_cons_zero, List.set_cons_succ]
                                                                        refine wpAnyH_take (i := 27) (oi := ?oF27) (v := ?vF27) ?hiF27 (by kernel_rfl) (by kernel_rfl) (by kernel_rfl) ?hQF27 ?hyF27 (by assumption) ?restF27
                                                                        case hiF27 => simp only [List.size_toArray, List.length_cons, List.length_nil, List.getElem?_toArray, List.getElem?_cons_succ, List.getElem?_cons_zero] <;> rfl
                                                                        case hQF27 => exact fun _ _ _ h => h
                                                                        case hyF27 => exact Or.inl ⟨by kernel_rfl, by intro w hSw; (try dsimp only at hSw); go_simp; first | done | with_reducible rfl⟩
                                                                        case restF27 =>
                                                                          try simp only [Act.put, List.setIfInBounds_toArray, List.set_cons_zero, List.set_cons_succ]
                                                                          refine wpAnyH_take (i := 28) (oi := ?oF28) (v := ?vF28) ?hiF28 (by kernel_rfl) (by kernel_rfl) (by kernel_rfl) ?hQF28 ?hyF28 (by assumption) ?restF28
                                                                          case hiF28 => simp only [List.size_toArray, List.length_cons, List.length_nil, List.getElem?_toArray, List.getElem?_cons_succ, List.getElem?_cons_zero] <;> rfl
                                                                          case hQF28 => exact fun _ _ _ h => h
                                                                          case hyF28 => exact Or.inl ⟨by kernel_rfl, by intro w hSw; (try dsimp only at hSw); go_simp; first | done | with_reducible rfl⟩
                                                                          case restF28 =>
                                                                            try simp only [Act.put, List.setIfInBounds_toArray, List.set_cons_zero, List.set_cons_succ]
                                                                            refine wpAnyH_take (i := 29) (oi := ?oF29) (v := ?vF29) ?hiF29 (by kernel_rfl) (by kernel_rfl) (by kernel_rfl) ?hQF29 ?hyF29 (by assumption) ?restF29
                                                                            case hiF29 => simp only [List.size_toArray, List.length_cons, List.length_nil, List.getElem?_toArray, List.getElem?_cons_succ, List.getElem?_cons_zero] <;> rfl
                                                                            case hQF29 => exact fun _ _ _ h => h
                                                                            case hyF29 => exact Or.inl ⟨by kernel_rfl, by intro w hSw; (try dsimp only at hSw); go_simp; first | done | with_reducible rfl⟩
                                                                            case restF29 =>
                                                                              try simp only [Act.put, List.setIfInBounds_toArray, List.set_cons_zero, List.set_cons_succ]
                                                                              refine wpAnyH_take (i := 30) (oi := ?oF30) (v := ?vF30) ?hiF30 (by kernel_rfl) (by kernel_rfl) (by kernel_rfl) ?hQF30 ?hyF30 (by assumption) ?restF30
                                                                              case hiF30 => simp only [List.size_toArray, List.length_cons, List.length_nil, List.getElem?_toArray, List.getElem?_cons_succ, List.getElem?_cons_zero] <;> rfl
                                                                              case hQF30 => exact fun _ _ _ h => h
                                                                              case hyF30 => exact Or.inl ⟨by kernel_rfl, by intro w hSw; (try dsimp only at hSw); go_simp; first | done | with_reducible rfl⟩
                                                                              case restF30 =>
                                                                                try simp only [Act.put, List.setIfInBounds_toArray, List.set_cons_zero, List.set_cons_succ]
                                                                                refine wpAnyH_take (i := 31) (oi := ?oF31) (v := ?vF31) ?hiF31 (by kernel_rfl) (by kernel_rfl) (by kernel_rfl) ?hQF31 ?hyF31 (by assumption) ?restF31
                                                                                case hiF31 => simp only [List.size_toArray, List.length_cons, List.length_nil, List.getElem?_toArray, List.getElem?_cons_succ, List.getElem?_cons_zero] <;> rfl
                                                                                case hQF31 => exact fun _ _ _ h => h
                                                                                case hyF31 => exact Or.inl ⟨by kernel_rfl, by intro w hSw; (try dsimp only at hSw); go_simp; first | done | with_reducible rfl⟩
                                                                                case restF31 =>
                                                                                  try simp only [Act.put, List.setIfInBounds_toArray, List.set_cons_zero, List.set_cons_succ]
                                                                                  refine wpAnyH_take (i := 32) (oi := ?oF32) (v := ?vF32) ?hiF32 (by kernel_rfl) (by kernel_rfl) (by kernel_rfl) ?hQF32 ?hyF32 (by assumption) ?restF32
                                                                                  case hiF32 => simp only [List.size_toArray, List.length_cons, List.length_nil, List.getElem?_toArray, List.getElem?_cons_succ, List.getElem?_cons_zero] <;> rfl
                                                                                  case hQF32 => exact fun _ _ _ h => h
                                                                                  case hyF32 => exact Or.inl ⟨by kernel_rfl, by intro w hSw; (try dsimp only at hSw); go_simp; first | done | with_reducible rfl⟩
                                                                                  case restF32 =>
                                                                                    try simp only [Act.put, List.setIfInBounds_toArray, List.set_cons_zero, List.set_cons_succ]
                                                                                    refine wpAnyH_take (i := 33) (oi := ?oF33) (v := ?vF33) ?hiF33 (by kernel_rfl) (by kernel_rfl) (by kernel_rfl) ?hQF33 ?hyF33 (by assumption) ?restF33
                                                                                    case hiF33 => simp only [List.size_toArray, List.length_cons, List.length_nil, List.getElem?_toArray, List.getElem?_cons_succ, List.getElem?_cons_zero] <;> rfl
                                                                                    case hQF33 => exact fun _ _ _ h => h
                                                                                    case hyF33 => exact Or.inl ⟨by kernel_rfl, by intro w hSw; (try dsimp only at hSw); go_simp; first | done | with_reducible rfl⟩
                                                                                    case restF33 =>
                                                                                      try simp only [Act.put, List.setIfInBounds_toArray, List.set_cons_zero, List.set_cons_succ]
                                                                                      refine wpAnyH_take (i := 34) (oi := ?oF34) (v := ?vF34) ?hiF34 (by kernel_rfl) (by kernel_rfl) (by kernel_rfl) ?hQF34 ?hyF34 (by assumption) ?restF34
                                                                                      case hiF34 => simp only [List.size_toArray, List.length_cons, List.length_nil, List.getElem?_toArray, List.getElem?_cons_succ, List.getElem?_cons_zero] <;> rfl
                                                                                      case hQF34 => exact fun _ _ _ h => h
                                                                                      case hyF34 => exact Or.inl ⟨by kernel_rfl, by intro w hSw; (try dsimp only at hSw); go_simp; first | done | with_reducible rfl⟩
                                                                                      case restF34 =>
                                                                                        try simp only [Act.put, List.setIfInBounds_toArray, List.set_cons_zero, List.set_cons_succ]
                                                                                        refine wpAnyH_take (i := 35) (oi := ?oF35) (v := ?vF35) ?hiF35 (by kernel_rfl) (by kernel_rfl) (by kernel_rfl) ?hQF35 ?hyF35 (by assumption) ?restF35
                                                                                        case hiF35 => simp only [List.size_toArray, List.length_cons, List.length_nil, List.getElem?_toArray, List.getElem?_cons_succ, List.getElem?_cons_zero] <;> rfl
                                                                                        case hQF35 => exact fun _ _ _ h => h
                                                                                        case hyF35 => exact Or.inl ⟨by kernel_rfl, by intro w hSw; (try dsimp only at hSw); go_simp; first | done | with_reducible rfl⟩
                                                                                        case restF35 =>
                                                                                          try simp only [Act.put, List.setIfInBounds_toArray, List.set_cons_zero, List.set_cons_succ]
                                                                                          refine wpAnyH_take (i := 36) (oi := ?oF36) (v := ?vF36) ?hiF36 (by kernel_rfl) (by kernel_rfl) (by kernel_rfl) ?hQF36 ?hyF36 (by assumption) ?restF36
                                                                                          case hiF36 => simp only [List.size_toArray, List.length_cons, List.length_nil, List.getElem?_toArray, List.getElem?_cons_succ, List.getElem?_cons_zero] <;> rfl
                                                                                          case hQF36 => exact fun _ _ _ h => h
                                                                                          case hyF36 => exact Or.inl ⟨by kernel_rfl, by intro w hSw; (try dsimp only at hSw); go_simp; first | done | with_reducible rfl⟩
                                                                                          case restF36 =>
                                                                                            try simp only [Act.put, List.setIfInBounds_toArray, List.set_cons_zero, List.set_cons_succ]
                                                                                            refine wpAnyH_take (i := 38) (oi := ?oF38) (v := ?vF38) ?hiF38 (by kernel_rfl) (by kernel_rfl) (by kernel_rfl) ?hQF38 ?hyF38 (by assumption) ?restF38
                                                                                            case hiF38 => simp only [List.size_toArray, List.length_cons, List.length_nil, List.getElem?_toArray, List.getElem?_cons_succ, List.getElem?_cons_zero] <;> rfl
                                                                                            case hQF38 => exact fun _ _ _ h => h
                                                                                            case hyF38 => exact Or.inl ⟨by kernel_rfl, by intro w hSw; (try dsimp only at hSw); go_simp; first | done | with_reducible rfl⟩
                                                                                            case restF38 =>
                                                                                              try simp only [Act.put, List.setIfInBounds_toArray, List.set_cons_zero, List.set_cons_succ]
                                                                                              refine wpAnyH_ready (rs := [37]) (by kernel_rfl) (by simp) (AllReadyH.cons (o := ?oF37) ?hiF37 (fun K hK => ?stepF37) AllReadyH.nil)
                                                                                              case hiF37 => simp only [List.size_toArray, List.length_cons, List.length_nil, List.getElem?_toArray, List.getElem?_cons_succ, List.getElem?_cons_zero] <;> rfl
                                                                                              case stepF37 =>
                                                                                                go_simp
                                                                                                (go_at_call 21; with_reducible refine (LMab.out _ HBW.out).mono ?_; rintro e w9 ⟨rfl, hb9⟩; have HBW := Aside0.mk (below_step HBW.out hb9); clear hb9)
                                                                                                go_wp2_with fail
                                                                                                refine hK.out _ _ ?hSF37 (fun hHeld => ?restF37)
                                                                                                case hSF37 => with_reducible exact ⟨HBW.out, HCells.out _ HBW.out⟩
                                                                                                case restF37 =>
                                                                                                  clear hK K
                                                                                                  try simp only [Act.put, List.setIfInBounds_toArray, List.set_cons_zero, List.set_cons_succ]
                                                                                                  refine wpAnyH_take (i := 39) (oi := ?oF39) (v := ?vF39) ?hiF39 (by kernel_rfl) (by kernel_rfl) (by kernel_rfl) ?hQF39 ?hyF39 (by assumption) ?restF39
                                                                                                  case hiF39 => simp only [List.size_toArray, List.length_cons, List.length_nil, List.getElem?_toArray, List.getElem?_cons_succ, List.getElem?_cons_zero] <;> rfl
                                                                                                  case hQF39 => exact fun _ _ _ h => h
                                                                                                  case hyF39 => exact Or.inl ⟨by kernel_rfl, by intro w hSw; (try dsimp only at hSw); go_simp; first | done | with_reducible rfl⟩
                                                                                                  case restF39 =>
                                                                                                    try simp only [Act.put, List.setIfInBounds_toArray, List.set_cons_zero, List.set_cons_succ]
                                                                                                    refine wpAnyH_take (i := 40) (oi := ?oF40) (v := ?vF40) ?hiF40 (by kernel_rfl) (by kernel_rfl) (by kernel_rfl) ?hQF40 ?hyF40 (by assumption) ?restF40
                                                                                                    case hiF40 => simp only [List.size_toArray, List.length_cons, List.length_nil, List.getElem?_toArray, List.getElem?_cons_succ, List.getElem?_cons_zero] <;> rfl
                                                                                                    case hQF40 => exact fun _ _ _ h => h
                                                                                                    case hyF40 => exact Or.inl ⟨by kernel_rfl, by intro w hSw; (try dsimp only at hSw); go_simp; first | done | with_reducible rfl⟩
                                                                                                    case restF40 =>
                                                                                                      try simp only [Act.put, List.setIfInBounds_toArray, List.set_cons_zero, List.set_cons_succ]
                                                                                                      refine wpAnyH_take (i := 41) (oi := ?oF41) (v := ?vF41) ?hiF41 (by kernel_rfl) (by kernel_rfl) (by kernel_rfl) ?hQF41 ?hyF41 (by assumption) ?restF41
                                                                                                      case hiF41 => simp only [List.size_toArray, List.length_cons, List.length_nil, List.getElem?_toArray, List.getElem?_cons_succ, List.getElem?_cons_zero] <;> rfl
                                                                                                      case hQF41 => exact fun _ _ _ h => h
                                                                                                      case hyF41 => exact Or.inl ⟨by kernel_rfl, by intro w hSw; (try dsimp only at hSw); go_simp; first | done | with_reducible rfl⟩
                                                                                                      case restF41 =>
                                                                                                        try simp only [Act.put, List.setIfInBounds_toArray, List.set_cons_zero, List.set_cons_succ]
                                                                                                        refine wpAnyH_take (i := 42) (oi := ?oF42) (v := ?vF42) ?hiF42 (by kernel_rfl) (by kernel_rfl) (by kernel_rfl) ?hQF42 ?hyF42 (by assumption) ?restF42
                                                                                                        case hiF42 => simp only [List.size_toArray, List.length_cons, List.length_nil, List.getElem?_toArray, List.getElem?_cons_succ, List.getElem?_cons_zero] <;> rfl
                                                                                                        case hQF42 => exact fun _ _ _ h => h
                                                                                                        case hyF42 => exact Or.inl ⟨by kernel_rfl, by intro w hSw; (try dsimp only at hSw); go_simp; first | done | with_reducible rfl⟩
                                                                                                        case restF42 =>
                                                                                                          try simp only [Act.put, List.setIfInBounds_toArray, List.set_cons_zero, List.set_cons_succ]
                                                                                                          refine wpAnyH_take (i := 43) (oi := ?oF43) (v := ?vF43) ?hiF43 (by kernel_rfl) (by kernel_rfl) (by kernel_rfl) ?hQF43 ?hyF43 (by assumption) ?restF43
                                                                                                          case hiF43 => simp only [List.size_toArray, List.length_cons, List.length_nil, List.getElem?_toArray, List.getElem?_cons_succ, List.getElem?_cons_zero] <;> rfl
                                                                                                          case hQF43 => exact fun _ _ _ h => h
                                                                                                          case hyF43 => exact Or.inl ⟨by kernel_rfl, by intro w hSw; (try dsimp only at hSw); go_simp; first | done | with_reducible rfl⟩
                                                                                                          case restF43 =>
                                                                                                            try simp only [Act.put, List.setIfInBounds_toArray, List.set_cons_zero, List.set_cons_succ]
                                                                                                            refine wpAnyH_take (i := 44) (oi := ?oF44) (v := ?vF44) ?hiF44 (by kernel_rfl) (by kernel_rfl) (by kernel_rfl) ?hQF44 ?hyF44 (by assumption) ?restF44
                                                                                                            case hiF44 => simp only [List.size_toArray, List.length_cons, List.length_nil, List.getElem?_toArray, List.getElem?_cons_succ, List.getElem?_cons_zero] <;> rfl
                                                                                                            case hQF44 => exact fun _ _ _ h => h
                                                                                                            case hyF44 => exact Or.inl ⟨by kernel_rfl, by intro w hSw; (try dsimp only at hSw); go_simp; first | done | with_reducible rfl⟩
                                                                                                            case restF44 =>
                                                                                                              try simp only [Act.put, List.setIfInBounds_toArray, List.set_cons_zero, List.set_cons_succ]
                                                                                                              refine wpAnyH_take (i := 45) (oi := ?oF45) (v := ?vF45) ?hiF45 (by kernel_rfl) (by kernel_rfl) (by kernel_rfl) ?hQF45 ?hyF45 (by assumption) ?restF45
                                                                                                              case hiF45 => simp only [List.size_toArray, List.length_cons, List.length_nil, List.getElem?_toArray, List.getElem?_cons_succ, List.getElem?_cons_zero] <;> rfl
                                                                                                              case hQF45 => exact fun _ _ _ h => h
                                                                                                              case hyF45 => exact Or.inl ⟨by kernel_rfl, by intro w hSw; (try dsimp only at hSw); go_simp; first | done | with_reducible rfl⟩
                                                                                                              case restF45 =>
                                                                                                                try simp only [Act.put, List.setIfInBounds_toArray, List.set_cons_zero, List.set_cons_succ]
                                                                                                                refine wpAnyH_take (i := 46) (oi := ?oF46) (v := ?vF46) ?hiF46 (by kernel_rfl) (by kernel_rfl) (by kernel_rfl) ?hQF46 ?hyF46 (by assumption) ?restF46
                                                                                                                case hiF46 => simp only [List.size_toArray, List.length_cons, List.length_nil, List.getElem?_toArray, List.getElem?_cons_succ, List.getElem?_cons_zero] <;> rfl
                                                                                                                case hQF46 => exact fun _ _ _ h => h
                                                                                                                case hyF46 => exact Or.inl ⟨by kernel_rfl, by intro w hSw; (try dsimp only at hSw); go_simp; first | done | with_reducible rfl⟩
                                                                                                                case restF46 =>
                                                                                                                  try simp only [Act.put, List.setIfInBounds_toArray, List.set_cons_zero, List.set_cons_succ]
                                                                                                                  refine wpAnyH_take (i := 47) (oi := ?oF47) (v := ?vF47) ?hiF47 (by kernel_rfl) (by kernel_rfl) (by kernel_rfl) ?hQF47 ?hyF47 (by assumption) ?restF47
                                                                                                                  case hiF47 => simp only [List.size_toArray, List.length_cons, List.length_nil, List.getElem?_toArray, List.getElem?_cons_succ, List.getElem?_cons_zero] <;> rfl
                                                                                                                  case hQF47 => exact fun _ _ _ h => h
                                                                                                                  case hyF47 => exact Or.inl ⟨by kernel_rfl, by intro w hSw; (try dsimp only at hSw); go_simp; first | done | with_reducible rfl⟩
                                                                                                                  case restF47 =>
                                                                                                                    try simp only [Act.put, List.setIfInBounds_toArray, List.set_cons_zero, List.set_cons_succ]
                                                                                                                    refine wpAnyH_take (i := 48) (oi := ?oF48) (v := ?vF48) ?hiF48 (by kernel_rfl) (by kernel_rfl) (by kernel_rfl) ?hQF48 ?hyF48 (by assumption) ?restF48
                                                                                                                    case hiF48 => simp only [List.size_toArray, List.length_cons, List.length_nil, List.getElem?_toArray, List.getElem?_cons_succ, List.getElem?_cons_zero] <;> rfl
                                                                                                                    case hQF48 => exact fun _ _ _ h => h
                                                                                                                    case hyF48 => exact Or.inl ⟨by kernel_rfl, by intro w hSw; (try dsimp only at hSw); go_simp; first | done | with_reducible rfl⟩
                                                                                                                    case restF48 =>
                                                                                                                      try simp only [Act.put, List.setIfInBounds_toArray, List.set_cons_zero, List.set_cons_succ]
                                                                                                                      refine wpAnyH_take (i := 49) (oi := ?oF49) (v := ?vF49) ?hiF49 (by kernel_rfl) (by kernel_rfl) (by kernel_rfl) ?hQF49 ?hyF49 (by assumption) ?restF49
                                                                                                                      case hiF49 => simp only [List.size_toArray, List.length_cons, List.length_nil, List.getElem?_toArray, List.getElem?_cons_succ, List.getElem?_cons_zero] <;> rfl
                                                                                                                      case hQF49 => exact fun _ _ _ h => h
                                                                                                                      case hyF49 => exact Or.inl ⟨by kernel_rfl, by intro w hSw; (try dsimp only at hSw); go_simp; first | done | with_reducible rfl⟩
                                                                                                                      case restF49 =>
                                                                                                                        try simp only [Act.put, List.setIfInBounds_toArray, List.set_cons_zero, List.set_cons_succ]
                                                                                                                        refine wpAnyH_take (i := 50) (oi := ?oF50) (v := ?vF50) ?hiF50 (by kernel_rfl) (by kernel_rfl) (by kernel_rfl) ?hQF50 ?hyF50 (by assumption) ?restF50
                                                                                                                        case hiF50 => simp only [List.size_toArray, List.length_cons, List.length_nil, List.getElem?_toArray, List.getElem?_cons_succ, List.getElem?_cons_zero] <;> rfl
                                                                                                                        case hQF50 => exact fun _ _ _ h => h
                                                                                                                        case hyF50 => exact Or.inl ⟨by kernel_rfl, by intro w hSw; (try dsimp only at hSw); go_simp; first | done | with_reducible rfl⟩
                                                                                                                        case restF50 =>
                                                                                                                          try simp only [Act.put, List.setIfInBounds_toArray, List.set_cons_zero, List.set_cons_succ]
                                                                                                                          refine wpAnyH_take (i := 51) (oi := ?oF51) (v := ?vF51) ?hiF51 (by kernel_rfl) (by kernel_rfl) (by kernel_rfl) ?hQF51 ?hyF51 (by assumption) ?restF51
                                                                                                                          case hiF51 => simp only [List.size_toArray, List.length_cons, List.length_nil, List.getElem?_toArray, List.getElem?_cons_succ, List.getElem?_cons_zero] <;> rfl
                                                                                                                          case hQF51 => exact fun _ _ _ h => h
                                                                                                                          case hyF51 => exact Or.inl ⟨by kernel_rfl, by intro w hSw; (try dsimp only at hSw); go_simp; first | done | with_reducible rfl⟩
                                                                                                                          case restF51 =>
                                                                                                                            try simp only [Act.put, List.setIfInBounds_toArray, List.set_cons_zero, List.set_cons_succ]
                                                                                                                            refine wpAnyH_take (i := 52) (oi := ?oF52) (v := ?vF52) ?hiF52 (by kernel_rfl) (by kernel_rfl) (by kernel_rfl) ?hQF52 ?hyF52 (by assumption) ?restF52
                                                                                                                            case hiF52 => simp only [List.size_toArray, List.length_cons, List.length_nil, List.getElem?_toArray, List.getElem?_cons_succ, List.getElem?_cons_zero] <;> rfl
                                                                                                                            case hQF52 => exact fun _ _ _ h => h
                                                                                                                            case hyF52 => exact Or.inl ⟨by kernel_rfl, by intro w hSw; (try dsimp only at hSw); go_simp; first | done | with_reducible rfl⟩
                                                                                                                            case restF52 =>
                                                                                                                              try simp only [Act.put, List.setIfInBounds_toArray, List.set_cons_zero, List.set_cons_succ]
                                                                                                                              refine wpAnyH_take (i := 53) (oi := ?oF53) (v := ?vF53) ?hiF53 (by kernel_rfl) (by kernel_rfl) (by kernel_rfl) ?hQF53 ?hyF53 (by assumption) ?restF53
                                                                                                                              case hiF53 => simp only [List.size_toArray, List.length_cons, List.length_nil, List.getElem?_toArray, List.getElem?_cons_succ, List.getElem?_cons_zero] <;> rfl
                                                                                                                              case hQF53 => exact fun _ _ _ h => h
                                                                                                                              case hyF53 => exact Or.inl ⟨by kernel_rfl, by intro w hSw; (try dsimp only at hSw); go_simp; first | done | with_reducible rfl⟩
                                                                                                                              case restF53 =>
                                                                                                                                try simp only [Act.put, List.setIfInBounds_toArray, List.set_cons_zero, List.set_cons_succ]
                                                                                                                                refine wpAnyH_take (i := 54) (oi := ?oF54) (v := ?vF54) ?hiF54 (by kernel_rfl) (by kernel_rfl) (by kernel_rfl) ?hQF54 ?hyF54 (by assumption) ?restF54
                                                                                                                                case hiF54 => simp only [List.size_toArray, List.length_cons, List.length_nil, List.getElem?_toArray, List.getElem?_cons_succ, List.getElem?_cons_zero] <;> rfl
                                                                                                                                case hQF54 => exact fun _ _ _ h => h
                                                                                                                                case hyF54 => exact Or.inl ⟨by kernel_rfl, by intro w hSw; (try dsimp only at hSw); go_simp; first | done | with_reducible rfl⟩
                                                                                                                                case restF54 =>
                                                                                                                                  try simp only [Act.put, List.setIfInBounds_toArray, List.set_cons_zero, List.set_cons_succ]
                                                                                                                                  refine wpAnyH_take (i := 55) (oi := ?oF55) (v := ?vF55) ?hiF55 (by kernel_rfl) (by kernel_rfl) (by kernel_rfl) ?hQF55 ?hyF55 (by assumption) ?restF55
                                                                                                                                  case hiF55 => simp only [List.size_toArray, List.length_cons, List.length_nil, List.getElem?_toArray, List.getElem?_cons_succ, List.getElem?_cons_zero] <;> rfl
                                                                                                                                  case hQF55 => exact fun _ _ _ h => h
                                                                                                                                  case hyF55 => exact Or.inl ⟨by kernel_rfl, by intro w hSw; (try dsimp only at hSw); go_simp; first | done | with_reducible rfl⟩
                                                                                                                                  case restF55 =>
                                                                                                                                    try simp only [Act.put, List.setIfInBounds_toArray, List.set_cons_zero, List.set_cons_succ]
                                                                                                                                    refine wpAnyH_take (i := 56) (oi := ?oF56) (v := ?vF56) ?hiF56 (by kernel_rfl) (by kernel_rfl) (by kernel_rfl) ?hQF56 ?hyF56 (by assumption) ?restF56
                                                                                                                                    case hiF56 => simp only [List.size_toArray, List.length_cons, List.length_nil, List.getElem?_toArray, List.getElem?_cons_succ, List.getElem?_cons_zero] <;> rfl
                                                                                                                                    case hQF56 => exact fun _ _ _ h => h
                                                                                                                                    case hyF56 => exact Or.inl ⟨by kernel_rfl, by intro w hSw; (try dsimp only at hSw); go_simp; first | done | with_reducible rfl⟩
                                                                                                                                    case restF56 =>
                                                                                                                                      try simp only [Act.put, List.setIfInBounds_toArray, List.set_cons_zero, List.set_cons_succ]
                                                                                                                                      refine wpAnyH_take (i := 57) (oi := ?oF57) (v := ?vF57) ?hiF57 (by kernel_rfl) (by kernel_rfl) (by kernel_rfl) ?hQF57 ?hyF57 (by assumption) ?restF57
                                                                                                                                      case hiF57 => simp only [List.size_toArray, List.length_cons, List.length_nil, List.getElem?_toArray, List.getElem?_cons_succ, List.getElem?_cons_zero] <;> rfl
                                                                                                                                      case hQF57 => exact fun _ _ _ h => h
                                                                                                                                      case hyF57 => exact Or.inl ⟨by kernel_rfl, by intro w hSw; (try dsimp only at hSw); go_simp; first | done | with_reducible rfl⟩
                                                                                                                                      case restF57 =>
                                                                                                                                        try simp only [Act.put, List.setIfInBounds_toArray, List.set_cons_zero, List.set_cons_succ]
                                                                                                                                        refine wpAnyH_take (i := 58) (oi := ?oF58) (v := ?vF58) ?hiF58 (by kernel_rfl) (by kernel_rfl) (by kernel_rfl) ?hQF58 ?hyF58 (by assumption) ?restF58
                                                                                                                                        case hiF58 => simp only [List.size_toArray, List.length_cons, List.length_nil, List.getElem?_toArray, List.getElem?_cons_succ, List.getElem?_cons_zero] <;> rfl
                                                                                                                                        case hQF58 => exact fun _ _ _ h => h
                                                                                                                                        case hyF58 => exact Or.inl ⟨by kernel_rfl, by intro w hSw; (try dsimp only at hSw); go_simp; first | done | with_reducible rfl⟩
                                                                                                                                        case restF58 =>
                                                                                                                                          try simp only [Act.put, List.setIfInBounds_toArray, List.set_cons_zero, List.set_cons_succ]
                                                                                                                                          refine wpAnyH_take (i := 59) (oi := ?oF59) (v := ?vF59) ?hiF59 (by kernel_rfl) (by kernel_rfl) (by kernel_rfl) ?hQF59 ?hyF59 (by assumption) ?restF59
                                                                                                                                          case hiF59 => simp only [List.size_toArray, List.length_cons, List.length_nil, List.getElem?_toArray, List.getElem?_cons_succ, List.getElem?_cons_zero] <;> rfl
                                                                                                                                          case hQF59 => exact fun _ _ _ h => h
                                                                                                                                          case hyF59 => exact Or.inl ⟨by kernel_rfl, by intro w hSw; (try dsimp only at hSw); go_simp; first | done | with_reducible rfl⟩
                                                                                                                                          case restF59 =>
                                                                                                                                            try simp only [Act.put, List.setIfInBounds_toArray, List.set_cons_zero, List.set_cons_succ]
                                                                                                                                            refine wpAnyH_take (i := 60) (oi := ?oF60) (v := ?vF60) ?hiF60 (by kernel_rfl) (by kernel_rfl) (by kernel_rfl) ?hQF60 ?hyF60 (by assumption) ?restF60
                                                                                                                                            case hiF60 => simp only [List.size_toArray, List.length_cons, List.length_nil, List.getElem?_toArray, List.getElem?_cons_succ, List.getElem?_cons_zero] <;> rfl
                                                                                                                                            case hQF60 => exact fun _ _ _ h => h
                                                                                                                                            case hyF60 => exact Or.inl ⟨by kernel_rfl, by intro w hSw; (try dsimp only at hSw); go_simp; first | done | with_reducible rfl⟩
                                                                                                                                            case restF60 =>
                                                                                                                                              try simp only [Act.put, List.setIfInBounds_toArray, List.set_cons_zero, List.set_cons_succ]
                                                                                                                                              refine wpAnyH_take (i := 61) (oi := ?oF61) (v := ?vF61) ?hiF61 (by kernel_rfl) (by kernel_rfl) (by kernel_rfl) ?hQF61 ?hyF61 (by assumption) ?restF61
                                                                                                                                              case hiF61 => simp only [List.size_toArray, List.length_cons, List.length_nil, List.getElem?_toArray, List.getElem?_cons_succ, List.getElem?_cons_zero] <;> rfl
                                                                                                                                              case hQF61 => exact fun _ _ _ h => h
                                                                                                                                              case hyF61 => exact Or.inl ⟨by kernel_rfl, by intro w hSw; (try dsimp only at hSw); go_simp; first | done | with_reducible rfl⟩
                                                                                                                                              case restF61 =>
                                                                                                                                                try simp only [Act.put, List.setIfInBounds_toArray, List.set_cons_zero, List.set_cons_succ]
                                                                                                                                                refine wpAnyH_take (i := 62) (oi := ?oF62) (v := ?vF62) ?hiF62 (by kernel_rfl) (by kernel_rfl) (by kernel_rfl) ?hQF62 ?hyF62 (by assumption) ?restF62
                                                                                                                                                case hiF62 => simp only [List.size_toArray, List.length_cons, List.length_nil, List.getElem?_toArray, List.getElem?_cons_succ, List.getElem?_cons_zero] <;> rfl
                                                                                                                                                case hQF62 => exact fun _ _ _ h => h
                                                                                                                                                case hyF62 => exact Or.inl ⟨by kernel_rfl, by intro w hSw; (try dsimp only at hSw); go_simp; first | done | with_reducible rfl⟩
                                                                                                                                                case restF62 =>
                                                                                                                                                  try simp only [Act.put, List.setIfInBounds_toArray, List.set_cons_zero, List.set_cons_succ]
                                                                                                                                                  refine wpAnyH_take (i := 63) (oi := ?oF63) (v := ?vF63) ?hiF63 (by kernel_rfl) (by kernel_rfl) (by kernel_rfl) ?hQF63 ?hyF63 (by assumption) ?restF63
                                                                                                                                                  case hiF63 => simp only [List.size_toArray, List.length_cons, List.length_nil, List.getElem?_toArray, List.getElem?_cons_succ, List.getElem?_cons_zero] <;> rfl
                                                                                                                                                  case hQF63 => exact fun _ _ _ h => h
                                                                                                                                                  case hyF63 => exact Or.inl ⟨by kernel_rfl, by intro w hSw; (try dsimp only at hSw); go_simp; first | done | with_reducible rfl⟩
                                                                                                                                                  case restF63 =>
                                                                                                                                                    try simp only [Act.put, List.setIfInBounds_toArray, List.set_cons_zero, List.set_cons_succ]
                                                                                                                                                    refine wpAnyH_ready (rs := [64]) (by kernel_rfl) (by simp) (AllReadyH.cons (o := ?oF64) ?hiF64 (fun K hK => ?stepF64) AllReadyH.nil)
                                                                                                                                                    case hiF64 => simp only [List.size_toArray, List.length_cons, List.length_nil, List.getElem?_toArray, List.getElem?_cons_succ, List.getElem?_cons_zero] <;> rfl
                                                                                                                                                    case stepF64 =>
                                                                                                                                                      go_simp
                                                                                                                                                      (go_at_call 15; with_reducible refine (HAL.out _).mono ?_; rintro e w9 ⟨rfl, hb9⟩; have HBW := Aside0.mk (below_step HBW.out hb9); clear hb9)
                                                                                                                                                      go_wp2_with fail
                                                                                                                                                      refine hK.out _ _ ?hSF64 (fun hHeld => ?restF64)
                                                                                                                                                      case hSF64 => with_reducible exact ⟨HBW.out, HCells.out _ HBW.out⟩
                                                                                                                                                      case restF64 =>
                                                                                                                                                        clear hK K
                                                                                                                                                        try simp only [Act.put, List.setIfInBounds_toArray, List.set_cons_zero, List.set_cons_succ]
                                                                                                                                                        refine wpAnyH_take (i := 65) (oi := ?oF65) (v := ?vF65) ?hiF65 (by kernel_rfl) (by kernel_rfl) (by kernel_rfl) ?hQF65 ?hyF65 (by assumption) ?restF65
                                                                                                                                                        case hiF65 => simp only [List.size_toArray, List.length_cons, List.length_nil, List.getElem?_toArray, List.getElem?_cons_succ, List.getElem?_cons_zero] <;> rfl
                                                                                                                                                        case hQF65 => exact fun _ _ _ h => h
                                                                                                                                                        case hyF65 => exact Or.inl ⟨by kernel_rfl, by intro w hSw; (try dsimp only at hSw); go_simp; first | done | with_reducible rfl⟩
                                                                                                                                                        case restF65 =>
                                                                                                                                                          try simp only [Act.put, List.setIfInBounds_toArray, List.set_cons_zero, List.set_cons_succ]
                                                                                                                                                          refine wpAnyH_take (i := 66) (oi := ?oF66) (v := ?vF66) ?hiF66 (by kernel_rfl) (by kernel_rfl) (by kernel_rfl) ?hQF66 ?hyF66 (by assumption) ?restF66
                                                                                                                                                          case hiF66 => simp only [List.size_toArray, List.length_cons, List.length_nil, List.getElem?_toArray, List.getElem?_cons_succ, List.getElem?_cons_zero] <;> rfl
                                                                                                                                                          case hQF66 => exact fun _ _ _ h => h
                                                                                                                                                          case hyF66 => exact Or.inl ⟨by kernel_rfl, by intro w hSw; (try dsimp only at hSw); go_simp; first | done | with_reducible rfl⟩
                                                                                                                                                          case restF66 =>
                                                                                                                                                            try simp only [Act.put, List.setIfInBounds_toArray, List.set_cons_zero, List.set_cons_succ]
                                                                                                                                                            refine wpAnyH_done (by kernel_rfl) ?_ _
                                                                                                                                                            go_wp2_with fail
                                                                                                                                                            go_ret
                                                                                                                                                            exact ⟨rfl, below_step HB5.out HBW.out⟩
              | true =>
                cases y with
                | false =>
                  refine wp_region_held_drew (S := (fun w' => Below w5.heap.size w5 w' ∧ w'.cell? (adT.add a.toNat) = some (.int .i64 ta) ∧ w'.cell? (adT.add b.toNat) = some (.int .i64 tb) ∧ w'.cell? (adT.add ta.toNat) = some (.int .i64 ta))) (by kernel_rfl) ⟨HB8.out, HC8.out⟩ (fun hHeld => ?_)
                  refine wpAnyH_take (i := 0) (oi := ?oG0) (v := ?vG0) ?hiG0 (by kernel_rfl) (by kernel_rfl) (by kernel_rfl) ?hQG0 ?hyG0 (by assumption) ?restG0
                  case hiG0 => simp only [List.size_toArray, List.length_cons, List.length_nil, List.getElem?_toArray, List.getElem?_cons_succ, List.getElem?_cons_zero] <;> rfl
                  case hQG0 => exact fun _ _ _ h => h
                  case hyG0 => exact Or.inl ⟨by kernel_rfl, by intro w hSw; (try dsimp only at hSw); go_simp; first | done | with_reducible rfl⟩
                  case restG0 =>
                    try simp only [Act.put, List.setIfInBounds_toArray, List.set_cons_zero, List.set_cons_succ]
                    refine wpAnyH_take (i := 1) (oi := ?oG1) (v := ?vG1) ?hiG1 (by kernel_rfl) (by kernel_rfl) (by kernel_rfl) ?hQG1 ?hyG1 (by assumption) ?restG1
                    case hiG1 => simp only [List.size_toArray, List.length_cons, List.length_nil, List.getElem?_toArray, List.getElem?_cons_succ, List.getElem?_cons_zero] <;> rfl
                    case hQG1 => exact fun _ _ _ h => h
                    case hyG1 => exact Or.inl ⟨by kernel_rfl, by intro w hSw; (try dsimp only at hSw); go_simp; first | done | with_reducible rfl⟩
                    case restG1 =>
                      try simp only [Act.put, List.setIfInBounds_toArray, List.set_cons_zero, List.set_cons_succ]
                      refine wpAnyH_take (i := 2) (oi := ?oG2) (v := ?vG2) ?hiG2 (by kernel_rfl) (by kernel_rfl) (by kernel_rfl) ?hQG2 ?hyG2 (by assumption) ?restG2
                      case hiG2 => simp only [List.size_toArray, List.length_cons, List.length_nil, List.getElem?_toArray, List.getElem?_cons_succ, List.getElem?_cons_zero] <;> rfl
                      case hQG2 => exact fun _ _ _ h => h
                      case hyG2 => exact Or.inl ⟨by kernel_rfl, by intro w hSw; (try dsimp only at hSw); go_simp; first | done | with_reducible rfl⟩
                      case restG2 =>
                        try simp only [Act.put, List.setIfInBounds_toArray, List.set_cons_zero, List.set_cons_succ]
                        refine wpAnyH_take (i := 3) (oi := ?oG3) (v := ?vG3) ?hiG3 (by kernel_rfl) (by kernel_rfl) (by kernel_rfl) ?hQG3 ?hyG3 (by assumption) ?restG3
                        case hiG3 => simp only [List.size_toArray, List.length_cons, List.length_nil, List.getElem?_toArray, List.getElem?_cons_succ, List.getElem?_cons_zero] <;> rfl
                        case hQG3 => exact fun _ _ _ h => h
                        case hyG3 => exact Or.inl ⟨by kernel_rfl, by intro w hSw; (try dsimp only at hSw); go_simp; first | done | with_reducible rfl⟩
                        case restG3 =>
                          try simp only [Act.put, List.setIfInBounds_toArray, List.set_cons_zero, List.set_cons_succ]
                          refine wpAnyH_ready (rs := [4]) (by kernel_rfl) (by simp) (AllReadyH.cons (o := ?oG4) ?hiG4 (fun K hK => ?stepG4) AllReadyH.nil)
                          case hiG4 => simp only [List.size_toArray, List.length_cons, List.length_nil, List.getElem?_toArray, List.getElem?_cons_succ, List.getElem?_cons_zero] <;> rfl
                          case stepG4 =>
                            go_simp
                            (go_at_call 21; with_reducible refine (LKba.out _ HB8.out).mono ?_; rintro e w9 ⟨rfl, hb9⟩; have HBW := Aside0.mk (below_step HB8.out hb9); clear hb9)
                            go_wp2_with fail
                            refine hK.out _ _ ?hSG4 (fun hHeld => ?restG4)
                            case hSG4 => with_reducible exact ⟨HBW.out, HCells.out _ HBW.out⟩
                            case restG4 =>
                              clear hK K
                              try simp only [Act.put, List.setIfInBounds_toArray, List.set_cons_zero, List.set_cons_succ]
                              refine wpAnyH_take (i := 5) (oi := ?oG5) (v := ?vG5) ?hiG5 (by kernel_rfl) (by kernel_rfl) (by kernel_rfl) ?hQG5 ?hyG5 (by assumption) ?restG5
                              case hiG5 => simp only [List.size_toArray, List.length_cons, List.length_nil, List.getElem?_toArray, List.getElem?_cons_succ, List.getElem?_cons_zero] <;> rfl
                              case hQG5 => exact fun _ _ _ h => h
                              case hyG5 => exact Or.inl ⟨by kernel_rfl, by intro w hSw; (try dsimp only at hSw); go_simp; first | done | with_reducible rfl⟩
                              case restG5 =>
                                try simp only [Act.put, List.setIfInBounds_toArray, List.set_cons_zero, List.set_cons_succ]
                                refine wpAnyH_take (i := 6) (oi := ?oG6) (v := ?vG6) ?hiG6 (by kernel_rfl) (by kernel_rfl) (by kernel_rfl) ?hQG6 ?hyG6 (by assumption) ?restG6
                                case hiG6 => simp only [List.size_toArray, List.length_cons, List.length_nil, List.getElem?_toArray, List.getElem?_cons_succ, List.getElem?_cons_zero] <;> rfl
                                case hQG6 => exact fun _ _ _ h => h
                                case hyG6 => exact Or.inl ⟨by kernel_rfl, by intro w hSw; (try dsimp only at hSw); go_simp; first | done | with_reducible rfl⟩
                                case restG6 =>
                                  try simp only [Act.put, List.setIfInBounds_toArray, List.set_cons_zero, List.set_cons_succ]
                                  refine wpAnyH_take (i := 7) (oi := ?oG7) (v := ?vG7) ?hiG7 (by kernel_rfl) (by kernel_rfl) (by kernel_rfl) ?hQG7 ?hyG7 (by assumption) ?restG7
                                  case hiG7 => simp only [List.size_toArray, List.length_cons, List.length_nil, List.getElem?_toArray, List.getElem?_cons_succ, List.getElem?_cons_zero] <;> rfl
                                  case hQG7 => exact fun _ _ _ h => h
                                  case hyG7 => exact Or.inl ⟨by kernel_rfl, by intro w hSw; (try dsimp only at hSw); go_simp; first | done | with_reducible rfl⟩
                                  case restG7 =>
                                    try simp only [Act.put, List.setIfInBounds_toArray, List.set_cons_zero, List.set_cons_succ]
                                    refine wpAnyH_take (i := 8) (oi := ?oG8) (v := ?vG8) ?hiG8 (by kernel_rfl) (by kernel_rfl) (by kernel_rfl) ?hQG8 ?hyG8 (by assumption) ?restG8
                                    case hiG8 => simp only [List.size_toArray, List.length_cons, List.length_nil, List.getElem?_toArray, List.getElem?_cons_succ, List.getElem?_cons_zero] <;> rfl
                                    case hQG8 => exact fun _ _ _ h => h
                                    case hyG8 => exact Or.inl ⟨by kernel_rfl, by intro w hSw; (try dsimp only at hSw); go_simp; first | done | with_reducible rfl⟩
                                    case restG8 =>
                                      try simp only [Act.put, List.setIfInBounds_toArray, List.set_cons_zero, List.set_cons_succ]
                                      refine wpAnyH_take (i := 9) (oi := ?oG9) (v := ?vG9) ?hiG9 (by kernel_rfl) (by kernel_rfl) (by kernel_rfl) ?hQG9 ?hyG9 (by assumption) ?restG9
                                      case hiG9 => simp only [List.size_toArray, List.length_cons, List.length_nil, List.getElem?_toArray, List.getElem?_cons_succ, List.getElem?_cons_zero] <;> rfl
                                      case hQG9 => exact fun _ _ _ h => h
                                      case hyG9 => exact Or.inl ⟨by kernel_rfl, by intro w hSw; (try dsimp only at hSw); go_simp; first | done | with_reducible rfl⟩
                                      case restG9 =>
                                        try simp only [Act.put, List.setIfInBounds_toArray, List.set_cons_zero, List.set_cons_succ]
                                        refine wpAnyH_take (i := 10) (oi := ?oG10) (v := ?vG10) ?hiG10 (by kernel_rfl) (by kernel_rfl) (by kernel_rfl) ?hQG10 ?hyG10 (by assumption) ?restG10
                                        case hiG10 => simp only [List.size_toArray, List.length_cons, List.length_nil, List.getElem?_toArray, List.getElem?_cons_succ, List.getElem?_cons_zero] <;> rfl
                                        case hQG10 => exact fun _ _ _ h => h
                                        case hyG10 => exact Or.inl ⟨by kernel_rfl, by intro w hSw; (try dsimp only at hSw); go_simp; first | done | with_reducible rfl⟩
                                        case restG10 =>
                                          try simp only [Act.put, List.setIfInBounds_toArray, List.set_cons_zero, List.set_cons_succ]
                                          refine wpAnyH_take (i := 11) (oi := ?oG11) (v := ?vG11) ?hiG11 (by kernel_rfl) (by kernel_rfl) (by kernel_rfl) ?hQG11 ?hyG11 (by assumption) ?restG11
                                          case hiG11 => simp only [List.size_toArray, List.length_cons, List.length_nil, List.getElem?_toArray, List.getElem?_cons_succ, List.getElem?_cons_zero] <;> rfl
                                          case hQG11 => exact fun _ _ _ h => h
                                          case hyG11 => exact Or.inl ⟨by kernel_rfl, by intro w hSw; (try dsimp only at hSw); go_simp; first | done | with_reducible rfl⟩
                                          case restG11 =>
                                            try simp only [Act.put, List.setIfInBounds_toArray, List.set_cons_zero, List.set_cons_succ]
                                            refine wpAnyH_take (i := 12) (oi := ?oG12) (v := ?vG12) ?hiG12 (by kernel_rfl) (by kernel_rfl) (by kernel_rfl) ?hQG12 ?hyG12 (by assumption) ?restG12
                                            case hiG12 => simp only [List.size_toArray, List.length_cons, List.length_nil, List.getElem?_toArray, List.getElem?_cons_succ, List.getElem?_cons_zero] <;> rfl
                                            case hQG12 => exact fun _ _ _ h => h
                                            case hyG12 => exact Or.inl ⟨by kernel_rfl, by intro w hSw; (try dsimp only at hSw); go_simp; first | done | with_reducible rfl⟩
                                            case restG12 =>
                                              try simp only [Act.put, List.setIfInBounds_toArray, List.set_cons_zero, List.set_cons_succ]
                                              refine wpAnyH_take (i := 13) (oi := ?oG13) (v := ?vG13) ?hiG13 (by kernel_rfl) (by kernel_rfl) (by kernel_rfl) ?hQG13 ?hyG13 (by assumption) ?restG13
                                              case hiG13 => simp only [List.size_toArray, List.length_cons, List.length_nil, List.getElem?_toArray, List.getElem?_cons_succ, List.getElem?_cons_zero] <;> rfl
                                              case hQG13 => exact fun _ _ _ h => h
                                              case hyG13 => exact Or.inl ⟨by kernel_rfl, by intro w hSw; (try dsimp only at hSw); go_simp; first | done | with_reducible rfl⟩
                                              case restG13 =>
                                                try simp only [Act.put, List.setIfInBounds_toArray, List.set_cons_zero, List.set_cons_succ]
                                                refine wpAnyH_take (i := 14) (oi := ?oG14) (v := undef) ?hiG14 (by kernel_rfl) (by kernel_rfl) (by kernel_rfl) ?hQG14 ?hyG14 (by assumption) ?restG14
                                                case hiG14 => simp only [List.size_toArray, List.length_cons, List.length_nil, List.getElem?_toArray, List.getElem?_cons_succ, List.getElem?_cons_zero] <;> rfl
                                                case hQG14 => exact fun _ _ _ h => h
                                                case hyG14 => exact Or.inr ⟨by kernel_rfl, rfl⟩
                                                case restG14 =>
                                                  try simp only [Act.put, List.setIfInBounds_toArray, List.set_cons_zero, List.set_cons_succ]
                                                  refine wpAnyH_take (i := 15) (oi := ?oG15) (v := undef) ?hiG15 (by kernel_rfl) (by kernel_rfl) (by kernel_rfl) ?hQG15 ?hyG15 (by assumption) ?restG15
                                                  case hiG15 => simp only [List.size_toArray, List.length_cons, List.length_nil, List.getElem?_toArray, List.getElem?_cons_succ, List.getElem?_cons_zero] <;> rfl
                                                  case hQG15 => exact fun _ _ _ h => h
                                                  case hyG15 => exact Or.inr ⟨by kernel_rfl, rfl⟩
                                                  case restG15 =>
                                                    try simp only [Act.put, List.setIfInBounds_toArray, List.set_cons_zero, List.set_cons_succ]
                                                    refine wpAnyH_take (i := 16) (oi := ?oG16) (v := undef) ?hiG16 (by kernel_rfl) (by kernel_rfl) (by kernel_rfl) ?hQG16 ?hyG16 (by assumption) ?restG16
                                                    case hiG16 => simp only [List.size_toArray, List.length_cons, List.length_nil, List.getElem?_toArray, List.getElem?_cons_succ, List.getElem?_cons_zero] <;> rfl
                                                    case hQG16 => exact fun _ _ _ h => h
                                                    case hyG16 => exact Or.inr ⟨by kernel_rfl, rfl⟩
                                                    case restG16 =>
                                                      try simp only [Act.put, List.setIfInBounds_toArray, List.set_cons_zero, List.set_cons_succ]
                                                      refine wpAnyH_take (i := 17) (oi := ?oG17) (v := undef) ?hiG17 (by kernel_rfl) (by kernel_rfl) (by kernel_rfl) ?hQG17 ?hyG17 (by assumption) ?restG17
                                                      case hiG17 => simp only [List.size_toArray, List.length_cons, List.length_nil, List.getElem?_toArray, List.getElem?_cons_succ, List.getElem?_cons_zero] <;> rfl
                                                      case hQG17 => exact fun _ _ _ h => h
                                                      case hyG17 => exact Or.inr ⟨by kernel_rfl, rfl⟩
                                                      case restG17 =>
                                                        try simp only [Act.put, List.setIfInBounds_toArray, List.set_cons_zero, List.set_cons_succ]
                                                        refine wpAnyH_take (i := 18) (oi := ?oG18) (v := ?vG18) ?hiG18 (by kernel_rfl) (by kernel_rfl) (by kernel_rfl) ?hQG18 ?hyG18 (by assumption) ?restG18
                                                        case hiG18 => simp only [List.size_toArray, List.length_cons, List.length_nil, List.getElem?_toArray, List.getElem?_cons_succ, List.getElem?_cons_zero] <;> rfl
                                                        case hQG18 => exact fun _ _ _ h => h
                                                        case hyG18 => exact Or.inl ⟨by kernel_rfl, by intro w hSw; (try dsimp only at hSw); go_simp; first | done | with_reducible rfl⟩
                                                        case restG18 =>
                                                          try simp only [Act.put, List.setIfInBounds_toArray, List.set_cons_zero, List.set_cons_succ]
                                                          refine wpAnyH_take (i := 19) (oi := ?oG19) (v := ?vG19) ?hiG19 (by kernel_rfl) (by kernel_rfl) (by kernel_rfl) ?hQG19 ?hyG19 (by assumption) ?restG19
                                                          case hiG19 => simp only [List.size_toArray, List.length_cons, List.length_nil, List.getElem?_toArray, List.getElem?_cons_succ, List.getElem?_cons_zero] <;> rfl
                                                          case hQG19 => exact fun _ _ _ h => h
                                                          case hyG19 => exact Or.inl ⟨by kernel_rfl, by intro w hSw; (try dsimp only at hSw); go_simp; first | done | with_reducible rfl⟩
                                                          case restG19 =>
                                                            try simp only [Act.put, List.setIfInBounds_toArray, List.set_cons_zero, List.set_cons_succ]
                                                            refine wpAnyH_take (i := 20) (oi := ?oG20) (v := ?vG20) ?hiG20 (by kernel_rfl) (by kernel_rfl) (by kernel_rfl) ?hQG20 ?hyG20 (by assumption) ?restG20
                                                            case hiG20 => simp only [List.size_toArray, List.length_cons, List.length_nil, List.getElem?_toArray, List.getElem?_cons_succ, List.getElem?_cons_zero] <;> rfl
                                                            case hQG20 => exact fun _ _ _ h => h
                                                            case hyG20 => exact Or.inl ⟨by kernel_rfl, by intro w hSw; (try dsimp only at hSw); go_simp; first | done | with_reducible rfl⟩
                                                            case restG20 =>
                                                              try simp only [Act.put, List.setIfInBounds_toArray, List.set_cons_zero, List.set_cons_succ]
                                                              refine wpAnyH_take (i := 21) (oi := ?oG21) (v := ?vG21) ?hiG21 (by kernel_rfl) (by kernel_rfl) (by kernel_rfl) ?hQG21 ?hyG21 (by assumption) ?restG21
                                                              case hiG21 => simp only [List.size_toArray, List.length_cons, List.length_nil, List.getElem?_toArray, List.getElem?_cons_succ, List.getElem?_cons_zero] <;> rfl
                                                              case hQG21 => exact fun _ _ _ h => h
                                                              case hyG21 => exact Or.inl ⟨by kernel_rfl, by intro w hSw; (try dsimp only at hSw); go_simp; first | done | with_reducible rfl⟩
                                                              case restG21 =>
                                                                try simp only [Act.put, List.setIfInBounds_toArray, List.set_cons_zero, List.set_cons_succ]
                                                                refine wpAnyH_take (i := 22) (oi := ?oG22) (v := ?vG22) ?hiG22 (by kernel_rfl) (by kernel_rfl) (by kernel_rfl) ?hQG22 ?hyG22 (by assumption) ?restG22
                                                                case hiG22 => simp only [List.size_toArray, List.length_cons, List.length_nil, List.getElem?_toArray, List.getElem?_cons_succ, List.getElem?_cons_zero] <;> rfl
                                                                case hQG22 => exact fun _ _ _ h => h
                                                                case hyG22 => exact Or.inl ⟨by kernel_rfl, by intro w hSw; (try dsimp only at hSw); go_simp; first | done | with_reducible rfl⟩
                                                                case restG22 =>
                                                                  try simp only [Act.put, List.setIfInBounds_toArray, List.set_cons_zero, List.set_cons_succ]
                                                                  refine wpAnyH_take (i := 23) (oi := ?oG23) (v := ?vG23) ?hiG23 (by kernel_rfl) (by kernel_rfl) (by kernel_rfl) ?hQG23 ?hyG23 (by assumption) ?restG23
                                                                  case hiG23 => simp only [List.size_toArray, List.length_cons, List.length_nil, List.getElem?_toArray, List.getElem?_cons_succ, List.getElem?_cons_zero] <;> rfl
                                                                  case hQG23 => exact fun _ _ _ h => h
                                                                  case hyG23 => exact Or.inl ⟨by kernel_rfl, by intro w hSw; (try dsimp only at hSw); go_simp; first | done | with_reducible rfl⟩
                                                                  case restG23 =>
                                                                    try simp only [Act.put, List.setIfInBounds_toArray, List.set_cons_zero, List.set_cons_succ]
                                                                    refine wpAnyH_take (i := 24) (oi := ?oG24) (v := ?vG24) ?hiG24 (by kernel_rfl) (by kernel_rfl) (by kernel_rfl) ?hQG24 ?hyG24 (by assumption) ?restG24
                                                                    case hiG24 => simp only [List.size_toArray, List.length_cons, List.length_nil, List.getElem?_toArray, List.getElem?_cons_succ, List.getElem?_cons_zero] <;> rfl
                                                                    case hQG24 => exact fun _ _ _ h => h
                                                                    case hyG24 => exact Or.inl ⟨by kernel_rfl, by intro w hSw; (try dsimp only at hSw); go_simp; first | done | with_reducible rfl⟩
                                                                    case restG24 =>
                                                                      try simp only [Act.put, List.setIfInBounds_toArray, List.set_cons_zero, List.set_cons_succ]
                                                                      refine wpAnyH_take (i := 25) (oi := ?oG25) (v := ?vG25) ?hiG25 (by kernel_rfl) (by kernel_rfl) (by kernel_rfl) ?hQG25 ?hyG25 (by assumption) ?restG25
                                                                      case hiG25 => simp only [List.size_toArray, List.length_cons, List.length_nil, List.getElem?_toArray, List.getElem?_cons_succ, List.getElem?_cons_zero] <;> rfl
                                                                      case hQG25 => exact fun _ _ _ h => h
                                                                      case hyG25 => exact Or.inl ⟨by kernel_rfl, by intro w hSw; (try dsimp only at hSw); go_simp; first | done | with_reducible rfl⟩
                                                                      case restG25 =>
                                                                        try simp only [Act.put, List.setIfInBounds_toArray, List.set_cons_zero, List.set_cons_succ]
                                                                        refine wpAnyH_take (i := 26) (oi := ?oG26) (v := ?vG26) ?hiG26 (by kernel_rfl) (by kernel_rfl) (by kernel_rfl) ?hQG26 ?hyG26 (by assumption) ?restG26
                                                                        case hiG26 => simp only [List.size_toArray, List.length_cons, List.length_nil, List.getElem?_toArray, List.getElem?_cons_succ, List.getElem?_cons_zero] <;> rfl
                                                                        case hQG26 => exact fun _ _ _ h => h
                                                                        case hyG26 => exact Or.inl ⟨by kernel_rfl, by intro w hSw; (try dsimp only at hSw); go_simp; first | done | with_reducible rfl⟩
                                                                        case restG26 =>
                                                                          try simp only [Act.put, List.setIfInBounds_toArray, List.set_cons_zero, List.set_cons_succ]
                                                                          refine wpAnyH_take (i := 27) (oi := ?oG27) (v := ?vG27) ?hiG27 (by kernel_rfl) (by kernel_rfl) (by kernel_rfl) ?hQG27 ?hyG27 (by assumption) ?restG27
                                                                          case hiG27 => simp only [List.size_toArray, List.length_cons, List.length_nil, List.getElem?_toArray, List.getElem?_cons_succ, List.getElem?_cons_zero] <;> rfl
                                                                          case hQG27 => exact fun _ _ _ h => h
                                                                          case hyG27 => exact Or.inl ⟨by kernel_rfl, by intro w hSw; (try dsimp only at hSw); go_simp; first | done | with_reducible rfl⟩
                                                                          case restG27 =>
                                                                            try simp only [Act.put, List.setIfInBounds_toArray, List.set_cons_zero, List.set_cons_succ]
                                                                            refine wpAnyH_take (i := 28) (oi := ?oG28) (v := ?vG28) ?hiG28 (by kernel_rfl) (by kernel_rfl) (by kernel_rfl) ?hQG28 ?hyG28 (by assumption) ?restG28
                                                                            case hiG28 => simp only [List.size_toArray, List.length_cons, List.length_nil, List.getElem?_toArray, List.getElem?_cons_succ, List.getElem?_cons_zero] <;> rfl
                                                                            case hQG28 => exact fun _ _ _ h => h
                                                                            case hyG28 => exact Or.inl ⟨by kernel_rfl, by intro w hSw; (try dsimp only at hSw); go_simp; first | done | with_reducible rfl⟩
                                                                            case restG28 =>
                                                                              try simp only [Act.put, List.setIfInBounds_toArray, List.set_cons_zero, List.set_cons_succ]
                                                                              refine wpAnyH_take (i := 29) (oi := ?oG29) (v := ?vG29) ?hiG29 (by kernel_rfl) (by kernel_rfl) (by kernel_rfl) ?hQG29 ?hyG29 (by assumption) ?restG29
                                                                              case hiG29 => simp only [List.size_toArray, List.length_cons, List.length_nil, List.getElem?_toArray, List.getElem?_cons_succ, List.getElem?_cons_zero] <;> rfl
                                                                              case hQG29 => exact fun _ _ _ h => h
                                                                              case hyG29 => exact Or.inl ⟨by kernel_rfl, by intro w hSw; (try dsimp only at hSw); go_simp; first | done | with_reducible rfl⟩
                                                                              case restG29 =>
                                                                                try simp only [Act.put, List.setIfInBounds_toArray, List.set_cons_zero, List.set_cons_succ]
                                                                                refine wpAnyH_take (i := 30) (oi := ?oG30) (v := ?vG30) ?hiG30 (by kernel_rfl) (by kernel_rfl) (by kernel_rfl) ?hQG30 ?hyG30 (by assumption) ?restG30
                                                                                case hiG30 => simp only [List.size_toArray, List.length_cons, List.length_nil, List.getElem?_toArray, List.getElem?_cons_succ, List.getElem?_cons_zero] <;> rfl
                                                                                case hQG30 => exact fun _ _ _ h => h
                                                                                case hyG30 => exact Or.inl ⟨by kernel_rfl, by intro w hSw; (try dsimp only at hSw); go_simp; first | done | with_reducible rfl⟩
                                                                                case restG30 =>
                                                                                  try simp only [Act.put, List.setIfInBounds_toArray, List.set_cons_zero, List.set_cons_succ]
                                                                                  refine wpAnyH_take (i := 31) (oi := ?oG31) (v := ?vG31) ?hiG31 (by kernel_rfl) (by kernel_rfl) (by kernel_rfl) ?hQG31 ?hyG31 (by assumption) ?restG31
                                                                                  case hiG31 => simp only [List.size_toArray, List.length_cons, List.length_nil, List.getElem?_toArray, List.getElem?_cons_succ, List.getElem?_cons_zero] <;> rfl
                                                                                  case hQG31 => exact fun _ _ _ h => h
                                                                                  case hyG31 => exact Or.inl ⟨by kernel_rfl, by intro w hSw; (try dsimp only at hSw); go_simp; first | done | with_reducible rfl⟩
                                                                                  case restG31 =>
                                                                                    try simp only [Act.put, List.setIfInBounds_toArray, List.set_cons_zero, List.set_cons_succ]
                                                                                    refine wpAnyH_take (i := 32) (oi := ?oG32) (v := ?vG32) ?hiG32 (by kernel_rfl) (by kernel_rfl) (by kernel_rfl) ?hQG32 ?hyG32 (by assumption) ?restG32
                                                                                    case hiG32 => simp only [List.size_toArray, List.length_cons, List.length_nil, List.getElem?_toArray, List.getElem?_cons_succ, List.getElem?_cons_zero] <;> rfl
                                                                                    case hQG32 => exact fun _ _ _ h => h
                                                                                    case hyG32 => exact Or.inl ⟨by kernel_rfl, by intro w hSw; (try dsimp only at hSw); go_simp; first | done | with_reducible rfl⟩
                                                                                    case restG32 =>
                                                                                      try simp only [Act.put, List.setIfInBounds_toArray, List.set_cons_zero, List.set_cons_succ]
                                                                                      refine wpAnyH_take (i := 33) (oi := ?oG33) (v := ?vG33) ?hiG33 (by kernel_rfl) (by kernel_rfl) (by kernel_rfl) ?hQG33 ?hyG33 (by assumption) ?restG33
                                                                                      case hiG33 => simp only [List.size_toArray, List.length_cons, List.length_nil, List.getElem?_toArray, List.getElem?_cons_succ, List.getElem?_cons_zero] <;> rfl
                                                                                      case hQG33 => exact fun _ _ _ h => h
                                                                                      case hyG33 => exact Or.inl ⟨by kernel_rfl, by intro w hSw; (try dsimp only at hSw); go_simp; first | done | with_reducible rfl⟩
                                                                                      case restG33 =>
                                                                                        try simp only [Act.put, List.setIfInBounds_toArray, List.set_cons_zero, List.set_cons_succ]
                                                                                        refine wpAnyH_take (i := 34) (oi := ?oG34) (v := ?vG34) ?hiG34 (by kernel_rfl) (by kernel_rfl) (by kernel_rfl) ?hQG34 ?hyG34 (by assumption) ?restG34
                                                                                        case hiG34 => simp only [List.size_toArray, List.length_cons, List.length_nil, List.getElem?_toArray, List.getElem?_cons_succ, List.getElem?_cons_zero] <;> rfl
                                                                                        case hQG34 => exact fun _ _ _ h => h
                                                                                        case hyG34 => exact Or.inl ⟨by kernel_rfl, by intro w hSw; (try dsimp only at hSw); go_simp; first | done | with_reducible rfl⟩
                                                                                        case restG34 =>
                                                                                          try simp only [Act.put, List.setIfInBounds_toArray, List.set_cons_zero, List.set_cons_succ]
                                                                                          refine wpAnyH_take (i := 35) (oi := ?oG35) (v := ?vG35) ?hiG35 (by kernel_rfl) (by kernel_rfl) (by kernel_rfl) ?hQG35 ?hyG35 (by assumption) ?restG35
                                                                                          case hiG35 => simp only [List.size_toArray, List.length_cons, List.length_nil, List.getElem?_toArray, List.getElem?_cons_succ, List.getElem?_cons_zero] <;> rfl
                                                                                          case hQG35 => exact fun _ _ _ h => h
                                                                                          case hyG35 => exact Or.inl ⟨by kernel_rfl, by intro w hSw; (try dsimp only at hSw); go_simp; first | done | with_reducible rfl⟩
                                                                                          case restG35 =>
                                                                                            try simp only [Act.put, List.setIfInBounds_toArray, List.set_cons_zero, List.set_cons_succ]
                                                                                            refine wpAnyH_take (i := 36) (oi := ?oG36) (v := ?vG36) ?hiG36 (by kernel_rfl) (by kernel_rfl) (by kernel_rfl) ?hQG36 ?hyG36 (by assumption) ?restG36
                                                                                            case hiG36 => simp only [List.size_toArray, List.length_cons, List.length_nil, List.getElem?_toArray, List.getElem?_cons_succ, List.getElem?_cons_zero] <;> rfl
                                                                                            case hQG36 => exact fun _ _ _ h => h
                                                                                            case hyG36 => exact Or.inl ⟨by kernel_rfl, by intro w hSw; (try dsimp only at hSw); go_simp; first | done | with_reducible rfl⟩
                                                                                            case restG36 =>
                                                                                              try simp only [Act.put, List.setIfInBounds_toArray, List.set_cons_zero, List.set_cons_succ]
                                                                                              refine wpAnyH_take (i := 38) (oi := ?oG38) (v := ?vG38) ?hiG38 (by kernel_rfl) (by kernel_rfl) (by kernel_rfl) ?hQG38 ?hyG38 (by assumption) ?restG38
                                                                                              case hiG38 => simp only [List.size_toArray, List.length_cons, List.length_nil, List.getElem?_toArray, List.getElem?_cons_succ, List.getElem?_cons_zero] <;> rfl
                                                                                              case hQG38 => exact fun _ _ _ h => h
                                                                                              case hyG38 => exact Or.inl ⟨by kernel_rfl, by intro w hSw; (try dsimp only at hSw); go_simp; first | done | with_reducible rfl⟩
                                                                                              case restG38 =>
                                                                                                try simp only [Act.put, List.setIfInBounds_toArray, List.set_cons_zero, List.set_cons_succ]
                                                                                                refine wpAnyH_ready (rs := [37]) (by kernel_rfl) (by simp) (AllReadyH.cons (o := ?oG37) ?hiG37 (fun K hK => ?stepG37) AllReadyH.nil)
                                                                                                case hiG37 => simp only [List.size_toArray, List.length_cons, List.length_nil, List.getElem?_toArray, List.getElem?_cons_succ, List.getElem?_cons_zero] <;> rfl
                                                                                                case stepG37 =>
                                                                                                  go_simp
                                                                                                  (go_at_call 21; with_reducible refine (LMab.out _ HBW.out).mono ?_; rintro e w9 ⟨rfl, hb9⟩; have HBW := Aside0.mk (below_step HBW.out hb9); clear hb9)
                                                                                                  go_wp2_with fail
                                                                                                  refine hK.out _ _ ?hSG37 (fun hHeld => ?restG37)
                                                                                                  case hSG37 => with_reducible exact ⟨HBW.out, HCells.out _ HBW.out⟩
                                                                                                  case restG37 =>
                                                                                                    clear hK K
                                                                                                    try simp only [Act.put, List.setIfInBounds_toArray, List.set_cons_zero, List.set_cons_succ]
                                                                                                    refine wpAnyH_take (i := 39) (oi := ?oG39) (v := ?vG39) ?hiG39 (by kernel_rfl) (by kernel_rfl) (by kernel_rfl) ?hQG39 ?hyG39 (by assumption) ?restG39
                                                                                                    case hiG39 => simp only [List.size_toArray, List.length_cons, List.length_nil, List.getElem?_toArray, List.getElem?_cons_succ, List.getElem?_cons_zero] <;> rfl
                                                                                                    case hQG39 => exact fun _ _ _ h => h
                                                                                                    case hyG39 => exact Or.inl ⟨by kernel_rfl, by intro w hSw; (try dsimp only at hSw); go_simp; first | done | with_reducible rfl⟩
                                                                                                    case restG39 =>
                                                                                                      try simp only [Act.put, List.setIfInBounds_toArray, List.set_cons_zero, List.set_cons_succ]
                                                                                                      refine wpAnyH_take (i := 40) (oi := ?oG40) (v := ?vG40) ?hiG40 (by kernel_rfl) (by kernel_rfl) (by kernel_rfl) ?hQG40 ?hyG40 (by assumption) ?restG40
                                                                                                      case hiG40 => simp only [List.size_toArray, List.length_cons, List.length_nil, List.getElem?_toArray, List.getElem?_cons_succ, List.getElem?_cons_zero] <;> rfl
                                                                                                      case hQG40 => exact fun _ _ _ h => h
                                                                                                      case hyG40 => exact Or.inl ⟨by kernel_rfl, by intro w hSw; (try dsimp only at hSw); go_simp; first | done | with_reducible rfl⟩
                                                                                                      case restG40 =>
                                                                                                        try simp only [Act.put, List.setIfInBounds_toArray, List.set_cons_zero, List.set_cons_succ]
                                                                                                        refine wpAnyH_take (i := 41) (oi := ?oG41) (v := ?vG41) ?hiG41 (by kernel_rfl) (by kernel_rfl) (by kernel_rfl) ?hQG41 ?hyG41 (by assumption) ?restG41
                                                                                                        case hiG41 => simp only [List.size_toArray, List.length_cons, List.length_nil, List.getElem?_toArray, List.getElem?_cons_succ, List.getElem?_cons_zero] <;> rfl
                                                                                                        case hQG41 => exact fun _ _ _ h => h
                                                                                                        case hyG41 => exact Or.inl ⟨by kernel_rfl, by intro w hSw; (try dsimp only at hSw); go_simp; first | done | with_reducible rfl⟩
                                                                                                        case restG41 =>
                                                                                                          try simp only [Act.put, List.setIfInBounds_toArray, List.set_cons_zero, List.set_cons_succ]
                                                                                                          refine wpAnyH_take (i := 42) (oi := ?oG42) (v := ?vG42) ?hiG42 (by kernel_rfl) (by kernel_rfl) (by kernel_rfl) ?hQG42 ?hyG42 (by assumption) ?restG42
                                                                                                          case hiG42 => simp only [List.size_toArray, List.length_cons, List.length_nil, List.getElem?_toArray, List.getElem?_cons_succ, List.getElem?_cons_zero] <;> rfl
                                                                                                          case hQG42 => exact fun _ _ _ h => h
                                                                                                          case hyG42 => exact Or.inl ⟨by kernel_rfl, by intro w hSw; (try dsimp only at hSw); go_simp; first | done | with_reducible rfl⟩
                                                                                                          case restG42 =>
                                                                                                            try simp only [Act.put, List.setIfInBounds_toArray, List.set_cons_zero, List.set_cons_succ]
                                                                                                            refine wpAnyH_take (i := 43) (oi := ?oG43) (v := ?vG43) ?hiG43 (by kernel_rfl) (by kernel_rfl) (by kernel_rfl) ?hQG43 ?hyG43 (by assumption) ?restG43
                                                                                                            case hiG43 => simp only [List.size_toArray, List.length_cons, List.length_nil, List.getElem?_toArray, List.getElem?_cons_succ, List.getElem?_cons_zero] <;> rfl
                                                                                                            case hQG43 => exact fun _ _ _ h => h
                                                                                                            case hyG43 => exact Or.inl ⟨by kernel_rfl, by intro w hSw; (try dsimp only at hSw); go_simp; first | done | with_reducible rfl⟩
                                                                                                            case restG43 =>
                                                                                                              try simp only [Act.put, List.setIfInBounds_toArray, List.set_cons_zero, List.set_cons_succ]
                                                                                                              refine wpAnyH_take (i := 44) (oi := ?oG44) (v := ?vG44) ?hiG44 (by kernel_rfl) (by kernel_rfl) (by kernel_rfl) ?hQG44 ?hyG44 (by assumption) ?restG44
                                                                                                              case hiG44 => simp only [List.size_toArray, List.length_cons, List.length_nil, List.getElem?_toArray, List.getElem?_cons_succ, List.getElem?_cons_zero] <;> rfl
                                                                                                              case hQG44 => exact fun _ _ _ h => h
                                                                                                              case hyG44 => exact Or.inl ⟨by kernel_rfl, by intro w hSw; (try dsimp only at hSw); go_simp; first | done | with_reducible rfl⟩
                                                                                                              case restG44 =>
                                                                                                                try simp only [Act.put, List.setIfInBounds_toArray, List.set_cons_zero, List.set_cons_succ]
                                                                                                                refine wpAnyH_take (i := 45) (oi := ?oG45) (v := ?vG45) ?hiG45 (by kernel_rfl) (by kernel_rfl) (by kernel_rfl) ?hQG45 ?hyG45 (by assumption) ?restG45
                                                                                                                case hiG45 => simp only [List.size_toArray, List.length_cons, List.length_nil, List.getElem?_toArray, List.getElem?_cons_succ, List.getElem?_cons_zero] <;> rfl
                                                                                                                case hQG45 => exact fun _ _ _ h => h
                                                                                                                case hyG45 => exact Or.inl ⟨by kernel_rfl, by intro w hSw; (try dsimp only at hSw); go_simp; first | done | with_reducible rfl⟩
                                                                                                                case restG45 =>
                                                                                                                  try simp only [Act.put, List.setIfInBounds_toArray, List.set_cons_zero, List.set_cons_succ]
                                                                                                                  refine wpAnyH_take (i := 46) (oi := ?oG46) (v := ?vG46) ?hiG46 (by kernel_rfl) (by kernel_rfl) (by kernel_rfl) ?hQG46 ?hyG46 (by assumption) ?restG46
                                                                                                                  case hiG46 => simp only [List.size_toArray, List.length_cons, List.length_nil, List.getElem?_toArray, List.getElem?_cons_succ, List.getElem?_cons_zero] <;> rfl
                                                                                                                  case hQG46 => exact fun _ _ _ h => h
                                                                                                                  case hyG46 => exact Or.inl ⟨by kernel_rfl, by intro w hSw; (try dsimp only at hSw); go_simp; first | done | with_reducible rfl⟩
                                                                                                                  case restG46 =>
                                                                                                                    try simp only [Act.put, List.setIfInBounds_toArray, List.set_cons_zero, List.set_cons_succ]
                                                                                                                    refine wpAnyH_take (i := 47) (oi := ?oG47) (v := ?vG47) ?hiG47 (by kernel_rfl) (by kernel_rfl) (by kernel_rfl) ?hQG47 ?hyG47 (by assumption) ?restG47
                                                                                                                    case hiG47 => simp only [List.size_toArray, List.length_cons, List.length_nil, List.getElem?_toArray, List.getElem?_cons_succ, List.getElem?_cons_zero] <;> rfl
                                                                                                                    case hQG47 => exact fun _ _ _ h => h
                                                                                                                    case hyG47 => exact Or.inl ⟨by kernel_rfl, by intro w hSw; (try dsimp only at hSw); go_simp; first | done | with_reducible rfl⟩
                                                                                                                    case restG47 =>
                                                                                                                      try simp only [Act.put, List.setIfInBounds_toArray, List.set_cons_zero, List.set_cons_succ]
                                                                                                                      refine wpAnyH_take (i := 48) (oi := ?oG48) (v := ?vG48) ?hiG48 (by kernel_rfl) (by kernel_rfl) (by kernel_rfl) ?hQG48 ?hyG48 (by assumption) ?restG48
                                                                                                                      case hiG48 => simp only [List.size_toArray, List.length_cons, List.length_nil, List.getElem?_toArray, List.getElem?_cons_succ, List.getElem?_cons_zero] <;> rfl
                                                                                                                      case hQG48 => exact fun _ _ _ h => h
                                                                                                                      case hyG48 => exact Or.inl ⟨by kernel_rfl, by intro w hSw; (try dsimp only at hSw); go_simp; first | done | with_reducible rfl⟩
                                                                                                                      case restG48 =>
                                                                                                                        try simp only [Act.put, List.setIfInBounds_toArray, List.set_cons_zero, List.set_cons_succ]
                                                                                                                        refine wpAnyH_take (i := 49) (oi := ?oG49) (v := ?vG49) ?hiG49 (by kernel_rfl) (by kernel_rfl) (by kernel_rfl) ?hQG49 ?hyG49 (by assumption) ?restG49
                                                                                                                        case hiG49 => simp only [List.size_toArray, List.length_cons, List.length_nil, List.getElem?_toArray, List.getElem?_cons_succ, List.getElem?_cons_zero] <;> rfl
                                                                                                                        case hQG49 => exact fun _ _ _ h => h
                                                                                                                        case hyG49 => exact Or.inl ⟨by kernel_rfl, by intro w hSw; (try dsimp only at hSw); go_simp; first | done | with_reducible rfl⟩
                                                                                                                        case restG49 =>
                                                                                                                          try simp only [Act.put, List.setIfInBounds_toArray, List.set_cons_zero, List.set_cons_succ]
                                                                                                                          refine wpAnyH_take (i := 50) (oi := ?oG50) (v := ?vG50) ?hiG50 (by kernel_rfl) (by kernel_rfl) (by kernel_rfl) ?hQG50 ?hyG50 (by assumption) ?restG50
                                                                                                                          case hiG50 => simp only [List.size_toArray, List.length_cons, List.length_nil, List.getElem?_toArray, List.getElem?_cons_succ, List.getElem?_cons_zero] <;> rfl
                                                                                                                          case hQG50 => exact fun _ _ _ h => h
                                                                                                                          case hyG50 => exact Or.inl ⟨by kernel_rfl, by intro w hSw; (try dsimp only at hSw); go_simp; first | done | with_reducible rfl⟩
                                                                                                                          case restG50 =>
                                                                                                                            try simp only [Act.put, List.setIfInBounds_toArray, List.set_cons_zero, List.set_cons_succ]
                                                                                                                            refine wpAnyH_take (i := 51) (oi := ?oG51) (v := ?vG51) ?hiG51 (by kernel_rfl) (by kernel_rfl) (by kernel_rfl) ?hQG51 ?hyG51 (by assumption) ?restG51
                                                                                                                            case hiG51 => simp only [List.size_toArray, List.length_cons, List.length_nil, List.getElem?_toArray, List.getElem?_cons_succ, List.getElem?_cons_zero] <;> rfl
                                                                                                                            case hQG51 => exact fun _ _ _ h => h
                                                                                                                            case hyG51 => exact Or.inl ⟨by kernel_rfl, by intro w hSw; (try dsimp only at hSw); go_simp; first | done | with_reducible rfl⟩
                                                                                                                            case restG51 =>
                                                                                                                              try simp only [Act.put, List.setIfInBounds_toArray, List.set_cons_zero, List.set_cons_succ]
                                                                                                                              refine wpAnyH_take (i := 52) (oi := ?oG52) (v := ?vG52) ?hiG52 (by kernel_rfl) (by kernel_rfl) (by kernel_rfl) ?hQG52 ?hyG52 (by assumption) ?restG52
                                                                                                                              case hiG52 => simp only [List.size_toArray, List.length_cons, List.length_nil, List.getElem?_toArray, List.getElem?_cons_succ, List.getElem?_cons_zero] <;> rfl
                                                                                                                              case hQG52 => exact fun _ _ _ h => h
                                                                                                                              case hyG52 => exact Or.inl ⟨by kernel_rfl, by intro w hSw; (try dsimp only at hSw); go_simp; first | done | with_reducible rfl⟩
                                                                                                                              case restG52 =>
                                                                                                                                try simp only [Act.put, List.setIfInBounds_toArray, List.set_cons_zero, List.set_cons_succ]
                                                                                                                                refine wpAnyH_take (i := 53) (oi := ?oG53) (v := ?vG53) ?hiG53 (by kernel_rfl) (by kernel_rfl) (by kernel_rfl) ?hQG53 ?hyG53 (by assumption) ?restG53
                                                                                                                                case hiG53 => simp only [List.size_toArray, List.length_cons, List.length_nil, List.getElem?_toArray, List.getElem?_cons_succ, List.getElem?_cons_zero] <;> rfl
                                                                                                                                case hQG53 => exact fun _ _ _ h => h
                                                                                                                                case hyG53 => exact Or.inl ⟨by kernel_rfl, by intro w hSw; (try dsimp only at hSw); go_simp; first | done | with_reducible rfl⟩
                                                                                                                                case restG53 =>
                                                                                                                                  try simp only [Act.put, List.setIfInBounds_toArray, List.set_cons_zero, List.set_cons_succ]
                                                                                                                                  refine wpAnyH_take (i := 54) (oi := ?oG54) (v := ?vG54) ?hiG54 (by kernel_rfl) (by kernel_rfl) (by kernel_rfl) ?hQG54 ?hyG54 (by assumption) ?restG54
                                                                                                                                  case hiG54 => simp only [List.size_toArray, List.length_cons, List.length_nil, List.getElem?_toArray, List.getElem?_cons_succ, List.getElem?_cons_zero] <;> rfl
                                                                                                                                  case hQG54 => exact fun _ _ _ h => h
                                                                                                                                  case hyG54 => exact Or.inl ⟨by kernel_rfl, by intro w hSw; (try dsimp only at hSw); go_simp; first | done | with_reducible rfl⟩
                                                                                                                                  case restG54 =>
                                                                                                                                    try simp only [Act.put, List.setIfInBounds_toArray, List.set_cons_zero, List.set_cons_succ]
                                                                                                                                    refine wpAnyH_take (i := 55) (oi := ?oG55) (v := ?vG55) ?hiG55 (by kernel_rfl) (by kernel_rfl) (by kernel_rfl) ?hQG55 ?hyG55 (by assumption) ?restG55
                                                                                                                                    case hiG55 => simp only [List.size_toArray, List.length_cons, List.length_nil, List.getElem?_toArray, List.getElem?_cons_succ, List.getElem?_cons_zero] <;> rfl
                                                                                                                                    case hQG55 => exact fun _ _ _ h => h
                                                                                                                                    case hyG55 => exact Or.inl ⟨by kernel_rfl, by intro w hSw; (try dsimp only at hSw); go_simp; first | done | with_reducible rfl⟩
                                                                                                                                    case restG55 =>
                                                                                                                                      try simp only [Act.put, List.setIfInBounds_toArray, List.set_cons_zero, List.set_cons_succ]
                                                                                                                                      refine wpAnyH_take (i := 56) (oi := ?oG56) (v := ?vG56) ?hiG56 (by kernel_rfl) (by kernel_rfl) (by kernel_rfl) ?hQG56 ?hyG56 (by assumption) ?restG56
                                                                                                                                      case hiG56 => simp only [List.size_toArray, List.length_cons, List.length_nil, List.getElem?_toArray, List.getElem?_cons_succ, List.getElem?_cons_zero] <;> rfl
                                                                                                                                      case hQG56 => exact fun _ _ _ h => h
                                                                                                                                      case hyG56 => exact Or.inl ⟨by kernel_rfl, by intro w hSw; (try dsimp only at hSw); go_simp; first | done | with_reducible rfl⟩
                                                                                                                                      case restG56 =>
                                                                                                                                        try simp only [Act.put, List.setIfInBounds_toArray, List.set_cons_zero, List.set_cons_succ]
                                                                                                                                        refine wpAnyH_take (i := 57) (oi := ?oG57) (v := ?vG57) ?hiG57 (by kernel_rfl) (by kernel_rfl) (by kernel_rfl) ?hQG57 ?hyG57 (by assumption) ?restG57
                                                                                                                                        case hiG57 => simp only [List.size_toArray, List.length_cons, List.length_nil, List.getElem?_toArray, List.getElem?_cons_succ, List.getElem?_cons_zero] <;> rfl
                                                                                                                                        case hQG57 => exact fun _ _ _ h => h
                                                                                                                                        case hyG57 => exact Or.inl ⟨by kernel_rfl, by intro w hSw; (try dsimp only at hSw); go_simp; first | done | with_reducible rfl⟩
                                                                                                                                        case restG57 =>
                                                                                                                                          try simp only [Act.put, List.setIfInBounds_toArray, List.set_cons_zero, List.set_cons_succ]
                                                                                                                                          refine wpAnyH_take (i := 58) (oi := ?oG58) (v := ?vG58) ?hiG58 (by kernel_rfl) (by kernel_rfl) (by kernel_rfl) ?hQG58 ?hyG58 (by assumption) ?restG58
                                                                                                                                          case hiG58 => simp only [List.size_toArray, List.length_cons, List.length_nil, List.getElem?_toArray, List.getElem?_cons_succ, List.getElem?_cons_zero] <;> rfl
                                                                                                                                          case hQG58 => exact fun _ _ _ h => h
                                                                                                                                          case hyG58 => exact Or.inl ⟨by kernel_rfl, by intro w hSw; (try dsimp only at hSw); go_simp; first | done | with_reducible rfl⟩
                                                                                                                                          case restG58 =>
                                                                                                                                            try simp only [Act.put, List.setIfInBounds_toArray, List.set_cons_zero, List.set_cons_succ]
                                                                                                                                            refine wpAnyH_take (i := 59) (oi := ?oG59) (v := ?vG59) ?hiG59 (by kernel_rfl) (by kernel_rfl) (by kernel_rfl) ?hQG59 ?hyG59 (by assumption) ?restG59
                                                                                                                                            case hiG59 => simp only [List.size_toArray, List.length_cons, List.length_nil, List.getElem?_toArray, List.getElem?_cons_succ, List.getElem?_cons_zero] <;> rfl
                                                                                                                                            case hQG59 => exact fun _ _ _ h => h
                                                                                                                                            case hyG59 => exact Or.inl ⟨by kernel_rfl, by intro w hSw; (try dsimp only at hSw); go_simp; first | done | with_reducible rfl⟩
                                                                                                                                            case restG59 =>
                                                                                                                                              try simp only [Act.put, List.setIfInBounds_toArray, List.set_cons_zero, List.set_cons_succ]
                                                                                                                                              refine wpAnyH_take (i := 60) (oi := ?oG60) (v := ?vG60) ?hiG60 (by kernel_rfl) (by kernel_rfl) (by kernel_rfl) ?hQG60 ?hyG60 (by assumption) ?restG60
                                                                                                                                              case hiG60 => simp only [List.size_toArray, List.length_cons, List.length_nil, List.getElem?_toArray, List.getElem?_cons_succ, List.getElem?_cons_zero] <;> rfl
                                                                                                                                              case hQG60 => exact fun _ _ _ h => h
                                                                                                                                              case hyG60 => exact Or.inl ⟨by kernel_rfl, by intro w hSw; (try dsimp only at hSw); go_simp; first | done | with_reducible rfl⟩
                                                                                                                                              case restG60 =>
                                                                                                                                                try simp only [Act.put, List.setIfInBounds_toArray, List.set_cons_zero, List.set_cons_succ]
                                                                                                                                                refine wpAnyH_take (i := 61) (oi := ?oG61) (v := ?vG61) ?hiG61 (by kernel_rfl) (by kernel_rfl) (by kernel_rfl) ?hQG61 ?hyG61 (by assumption) ?restG61
                                                                                                                                                case hiG61 => simp only [List.size_toArray, List.length_cons, List.length_nil, List.getElem?_toArray, List.getElem?_cons_succ, List.getElem?_cons_zero] <;> rfl
                                                                                                                                                case hQG61 => exact fun _ _ _ h => h
                                                                                                                                                case hyG61 => exact Or.inl ⟨by kernel_rfl, by intro w hSw; (try dsimp only at hSw); go_simp; first | done | with_reducible rfl⟩
                                                                                                                                                case restG61 =>
                                                                                                                                                  try simp only [Act.put, List.setIfInBounds_toArray, List.set_cons_zero, List.set_cons_succ]
                                                                                                                                                  refine wpAnyH_take (i := 62) (oi := ?oG62) (v := ?vG62) ?hiG62 (by kernel_rfl) (by kernel_rfl) (by kernel_rfl) ?hQG62 ?hyG62 (by assumption) ?restG62
                                                                                                                                                  case hiG62 => simp only [List.size_toArray, List.length_cons, List.length_nil, List.getElem?_toArray, List.getElem?_cons_succ, List.getElem?_cons_zero] <;> rfl
                                                                                                                                                  case hQG62 => exact fun _ _ _ h => h
                                                                                                                                                  case hyG62 => exact Or.inl ⟨by kernel_rfl, by intro w hSw; (try dsimp only at hSw); go_simp; first | done | with_reducible rfl⟩
                                                                                                                                                  case restG62 =>
                                                                                                                                                    try simp only [Act.put, List.setIfInBounds_toArray, List.set_cons_zero, List.set_cons_succ]
                                                                                                                                                    refine wpAnyH_take (i := 63) (oi := ?oG63) (v := ?vG63) ?hiG63 (by kernel_rfl) (by kernel_rfl) (by kernel_rfl) ?hQG63 ?hyG63 (by assumption) ?restG63
                                                                                                                                                    case hiG63 => simp only [List.size_toArray, List.length_cons, List.length_nil, List.getElem?_toArray, List.getElem?_cons_succ, List.getElem?_cons_zero] <;> rfl
                                                                                                                                                    case hQG63 => exact fun _ _ _ h => h
                                                                                                                                                    case hyG63 => exact Or.inl ⟨by kernel_rfl, by intro w hSw; (try dsimp only at hSw); go_simp; first | done | with_reducible rfl⟩
                                                                                                                                                    case restG63 =>
                                                                                                                                                      try simp only [Act.put, List.setIfInBounds_toArray, List.set_cons_zero, List.set_cons_succ]
                                                                                                                                                      refine wpAnyH_ready (rs := [64]) (by kernel_rfl) (by simp) (AllReadyH.cons (o := ?oG64) ?hiG64 (fun K hK => ?stepG64) AllReadyH.nil)
                                                                                                                                                      case hiG64 => simp only [List.size_toArray, List.length_cons, List.length_nil, List.getElem?_toArray, List.getElem?_cons_succ, List.getElem?_cons_zero] <;> rfl
                                                                                                                                                      case stepG64 =>
                                                                                                                                                        go_simp
                                                                                                                                                        (go_at_call 15; with_reducible refine (HAL.out _).mono ?_; rintro e w9 ⟨rfl, hb9⟩; have HBW := Aside0.mk (below_step HBW.out hb9); clear hb9)
                                                                                                                                                        go_wp2_with fail
                                                                                                                                                        refine hK.out _ _ ?hSG64 (fun hHeld => ?restG64)
                                                                                                                                                        case hSG64 => with_reducible exact ⟨HBW.out, HCells.out _ HBW.out⟩
                                                                                                                                                        case restG64 =>
                                                                                                                                                          clear hK K
                                                                                                                                                          try simp only [Act.put, List.setIfInBounds_toArray, List.set_cons_zero, List.set_cons_succ]
                                                                                                                                                          refine wpAnyH_take (i := 65) (oi := ?oG65) (v := ?vG65) ?hiG65 (by kernel_rfl) (by kernel_rfl) (by kernel_rfl) ?hQG65 ?hyG65 (by assumption) ?restG65
                                                                                                                                                          case hiG65 => simp only [List.size_toArray, List.length_cons, List.length_nil, List.getElem?_toArray, List.getElem?_cons_succ, List.getElem?_cons_zero] <;> rfl
                                                                                                                                                          case hQG65 => exact fun _ _ _ h => h
                                                                                                                                                          case hyG65 => exact Or.inl ⟨by kernel_rfl, by intro w hSw; (try dsimp only at hSw); go_simp; first | done | with_reducible rfl⟩
                                                                                                                                                          case restG65 =>
                                                                                                                                                            try simp only [Act.put, List.setIfInBounds_toArray, List.set_cons_zero, List.set_cons_succ]
                                                                                                                                                            refine wpAnyH_take (i := 66) (oi := ?oG66) (v := ?vG66) ?hiG66 (by kernel_rfl) (by kernel_rfl) (by kernel_rfl) ?hQG66 ?hyG66 (by assumption) ?restG66
                                                                                                                                                            case hiG66 => simp only [List.size_toArray, List.length_cons, List.length_nil, List.getElem?_toArray, List.getElem?_cons_succ, List.getElem?_cons_zero] <;> rfl
                                                                                                                                                            case hQG66 => exact fun _ _ _ h => h
                                                                                                                                                            case hyG66 => exact Or.inl ⟨by kernel_rfl, by intro w hSw; (try dsimp only at hSw); go_simp; first | done | with_reducible rfl⟩
                                                                                                                                                            case restG66 =>
                                                                                                                                                              try simp only [Act.put, List.setIfInBounds_toArray, List.set_cons_zero, List.set_cons_succ]
                                                                                                                                                              refine wpAnyH_done (by kernel_rfl) ?_ _
                                                                                                                                                              go_wp2_with fail
                                                                                                                                                              go_ret
                                                                                                                                                              exact ⟨rfl, below_step HB5.out HBW.out⟩
                | true =>
                  obtain rfl : z = true := htr rfl rfl
                  refine wp_region_held_drew (S := (fun w' => Below w5.heap.size w5 w' ∧ w'.cell? (adT.add a.toNat) = some (.int .i64 ta) ∧ w'.cell? (adT.add b.toNat) = some (.int .i64 tb) ∧ w'.cell? (adT.add ta.toNat) = some (.int .i64 ta))) (by kernel_rfl) ⟨HB8.out, HC8.out⟩ (fun hHeld => ?_)
                  refine wpAnyH_take (i := 0) (oi := ?oT0) (v := ?vT0) ?hiT0 (by kernel_rfl) (by kernel_rfl) (by kernel_rfl) ?hQT0 ?hyT0 (by assumption) ?restT0
                  case hiT0 => simp only [List.size_toArray, List.length_cons, List.length_nil, List.getElem?_toArray, List.getElem?_cons_succ, List.getElem?_cons_zero] <;> rfl
                  case hQT0 => exact fun _ _ _ h => h
                  case hyT0 => exact Or.inl ⟨by kernel_rfl, by intro w hSw; (try dsimp only at hSw); go_simp; first | done | with_reducible rfl⟩
                  case restT0 =>
                    try simp only [Act.put, List.setIfInBounds_toArray, List.set_cons_zero, List.set_cons_succ]
                    refine wpAnyH_take (i := 1) (oi := ?oT1) (v := ?vT1) ?hiT1 (by kernel_rfl) (by kernel_rfl) (by kernel_rfl) ?hQT1 ?hyT1 (by assumption) ?restT1
                    case hiT1 => simp only [List.size_toArray, List.length_cons, List.length_nil, List.getElem?_toArray, List.getElem?_cons_succ, List.getElem?_cons_zero] <;> rfl
                    case hQT1 => exact fun _ _ _ h => h
                    case hyT1 => exact Or.inl ⟨by kernel_rfl, by intro w hSw; (try dsimp only at hSw); go_simp; first | done | with_reducible rfl⟩
                    case restT1 =>
                      try simp only [Act.put, List.setIfInBounds_toArray, List.set_cons_zero, List.set_cons_succ]
                      refine wpAnyH_take (i := 2) (oi := ?oT2) (v := ?vT2) ?hiT2 (by kernel_rfl) (by kernel_rfl) (by kernel_rfl) ?hQT2 ?hyT2 (by assumption) ?restT2
                      case hiT2 => simp only [List.size_toArray, List.length_cons, List.length_nil, List.getElem?_toArray, List.getElem?_cons_succ, List.getElem?_cons_zero] <;> rfl
                      case hQT2 => exact fun _ _ _ h => h
                      case hyT2 => exact Or.inl ⟨by kernel_rfl, by intro w hSw; (try dsimp only at hSw); go_simp; first | done | with_reducible rfl⟩
                      case restT2 =>
                        try simp only [Act.put, List.setIfInBounds_toArray, List.set_cons_zero, List.set_cons_succ]
                        refine wpAnyH_take (i := 3) (oi := ?oT3) (v := ?vT3) ?hiT3 (by kernel_rfl) (by kernel_rfl) (by kernel_rfl) ?hQT3 ?hyT3 (by assumption) ?restT3
                        case hiT3 => simp only [List.size_toArray, List.length_cons, List.length_nil, List.getElem?_toArray, List.getElem?_cons_succ, List.getElem?_cons_zero] <;> rfl
                        case hQT3 => exact fun _ _ _ h => h
                        case hyT3 => exact Or.inl ⟨by kernel_rfl, by intro w hSw; (try dsimp only at hSw); go_simp; first | done | with_reducible rfl⟩
                        case restT3 =>
                          try simp only [Act.put, List.setIfInBounds_toArray, List.set_cons_zero, List.set_cons_succ]
                          refine wpAnyH_ready (rs := [4]) (by kernel_rfl) (by simp) (AllReadyH.cons (o := ?oT4) ?hiT4 (fun K hK => ?stepT4) AllReadyH.nil)
                          case hiT4 => simp only [List.size_toArray, List.length_cons, List.length_nil, List.getElem?_toArray, List.getElem?_cons_succ, List.getElem?_cons_zero] <;> rfl
                          case stepT4 =>
                            go_simp
                            (go_at_call 21; with_reducible refine (LKba.out _ HB8.out).mono ?_; rintro e w9 ⟨rfl, hb9⟩; have HBW := Aside0.mk (below_step HB8.out hb9); clear hb9)
                            go_wp2_with fail
                            refine hK.out _ _ ?hST4 (fun hHeld => ?restT4)
                            case hST4 => with_reducible exact ⟨HBW.out, HCells.out _ HBW.out⟩
                            case restT4 =>
                              clear hK K
                              try simp only [Act.put, List.setIfInBounds_toArray, List.set_cons_zero, List.set_cons_succ]
                              refine wpAnyH_take (i := 5) (oi := ?oT5) (v := ?vT5) ?hiT5 (by kernel_rfl) (by kernel_rfl) (by kernel_rfl) ?hQT5 ?hyT5 (by assumption) ?restT5
                              case hiT5 => simp only [List.size_toArray, List.length_cons, List.length_nil, List.getElem?_toArray, List.getElem?_cons_succ, List.getElem?_cons_zero] <;> rfl
                              case hQT5 => exact fun _ _ _ h => h
                              case hyT5 => exact Or.inl ⟨by kernel_rfl, by intro w hSw; (try dsimp only at hSw); go_simp; first | done | with_reducible rfl⟩
                              case restT5 =>
                                try simp only [Act.put, List.setIfInBounds_toArray, List.set_cons_zero, List.set_cons_succ]
                                refine wpAnyH_take (i := 6) (oi := ?oT6) (v := ?vT6) ?hiT6 (by kernel_rfl) (by kernel_rfl) (by kernel_rfl) ?hQT6 ?hyT6 (by assumption) ?restT6
                                case hiT6 => simp only [List.size_toArray, List.length_cons, List.length_nil, List.getElem?_toArray, List.getElem?_cons_succ, List.getElem?_cons_zero] <;> rfl
                                case hQT6 => exact fun _ _ _ h => h
                                case hyT6 => exact Or.inl ⟨by kernel_rfl, by intro w hSw; (try dsimp only at hSw); go_simp; first | done | with_reducible rfl⟩
                                case restT6 =>
                                  try simp only [Act.put, List.setIfInBounds_toArray, List.set_cons_zero, List.set_cons_succ]
                                  refine wpAnyH_take (i := 7) (oi := ?oT7) (v := ?vT7) ?hiT7 (by kernel_rfl) (by kernel_rfl) (by kernel_rfl) ?hQT7 ?hyT7 (by assumption) ?restT7
                                  case hiT7 => simp only [List.size_toArray, List.length_cons, List.length_nil, List.getElem?_toArray, List.getElem?_cons_succ, List.getElem?_cons_zero] <;> rfl
                                  case hQT7 => exact fun _ _ _ h => h
                                  case hyT7 => exact Or.inl ⟨by kernel_rfl, by intro w hSw; (try dsimp only at hSw); go_simp; first | done | with_reducible rfl⟩
                                  case restT7 =>
                                    try simp only [Act.put, List.setIfInBounds_toArray, List.set_cons_zero, List.set_cons_succ]
                                    refine wpAnyH_take (i := 8) (oi := ?oT8) (v := ?vT8) ?hiT8 (by kernel_rfl) (by kernel_rfl) (by kernel_rfl) ?hQT8 ?hyT8 (by assumption) ?restT8
                                    case hiT8 => simp only [List.size_toArray, List.length_cons, List.length_nil, List.getElem?_toArray, List.getElem?_cons_succ, List.getElem?_cons_zero] <;> rfl
                                    case hQT8 => exact fun _ _ _ h => h
                                    case hyT8 => exact Or.inl ⟨by kernel_rfl, by intro w hSw; (try dsimp only at hSw); go_simp; first | done | with_reducible rfl⟩
                                    case restT8 =>
                                      try simp only [Act.put, List.setIfInBounds_toArray, List.set_cons_zero, List.set_cons_succ]
                                      refine wpAnyH_take (i := 9) (oi := ?oT9) (v := ?vT9) ?hiT9 (by kernel_rfl) (by kernel_rfl) (by kernel_rfl) ?hQT9 ?hyT9 (by assumption) ?restT9
                                      case hiT9 => simp only [List.size_toArray, List.length_cons, List.length_nil, List.getElem?_toArray, List.getElem?_cons_succ, List.getElem?_cons_zero] <;> rfl
                                      case hQT9 => exact fun _ _ _ h => h
                                      case hyT9 => exact Or.inl ⟨by kernel_rfl, by intro w hSw; (try dsimp only at hSw); go_simp; first | done | with_reducible rfl⟩
                                      case restT9 =>
                                        try simp only [Act.put, List.setIfInBounds_toArray, List.set_cons_zero, List.set_cons_succ]
                                        refine wpAnyH_take (i := 10) (oi := ?oT10) (v := ?vT10) ?hiT10 (by kernel_rfl) (by kernel_rfl) (by kernel_rfl) ?hQT10 ?hyT10 (by assumption) ?restT10
                                        case hiT10 => simp only [List.size_toArray, List.length_cons, List.length_nil, List.getElem?_toArray, List.getElem?_cons_succ, List.getElem?_cons_zero] <;> rfl
                                        case hQT10 => exact fun _ _ _ h => h
                                        case hyT10 => exact Or.inl ⟨by kernel_rfl, by intro w hSw; (try dsimp only at hSw); go_simp; first | done | with_reducible rfl⟩
                                        case restT10 =>
                                          try simp only [Act.put, List.setIfInBounds_toArray, List.set_cons_zero, List.set_cons_succ]
                                          refine wpAnyH_take (i := 11) (oi := ?oT11) (v := ?vT11) ?hiT11 (by kernel_rfl) (by kernel_rfl) (by kernel_rfl) ?hQT11 ?hyT11 (by assumption) ?restT11
                                          case hiT11 => simp only [List.size_toArray, List.length_cons, List.length_nil, List.getElem?_toArray, List.getElem?_cons_succ, List.getElem?_cons_zero] <;> rfl
                                          case hQT11 => exact fun _ _ _ h => h
                                          case hyT11 => exact Or.inl ⟨by kernel_rfl, by intro w hSw; (try dsimp only at hSw); go_simp; first | done | with_reducible rfl⟩
                                          case restT11 =>
                                            try simp only [Act.put, List.setIfInBounds_toArray, List.set_cons_zero, List.set_cons_succ]
                                            refine wpAnyH_take (i := 12) (oi := ?oT12) (v := ?vT12) ?hiT12 (by kernel_rfl) (by kernel_rfl) (by kernel_rfl) ?hQT12 ?hyT12 (by assumption) ?restT12
                                            case hiT12 => simp only [List.size_toArray, List.length_cons, List.length_nil, List.getElem?_toArray, List.getElem?_cons_succ, List.getElem?_cons_zero] <;> rfl
                                            case hQT12 => exact fun _ _ _ h => h
                                            case hyT12 => exact Or.inl ⟨by kernel_rfl, by intro w hSw; (try dsimp only at hSw); go_simp; first | done | with_reducible rfl⟩
                                            case restT12 =>
                                              try simp only [Act.put, List.setIfInBounds_toArray, List.set_cons_zero, List.set_cons_succ]
                                              refine wpAnyH_take (i := 13) (oi := ?oT13) (v := ?vT13) ?hiT13 (by kernel_rfl) (by kernel_rfl) (by kernel_rfl) ?hQT13 ?hyT13 (by assumption) ?restT13
                                              case hiT13 => simp only [List.size_toArray, List.length_cons, List.length_nil, List.getElem?_toArray, List.getElem?_cons_succ, List.getElem?_cons_zero] <;> rfl
                                              case hQT13 => exact fun _ _ _ h => h
                                              case hyT13 => exact Or.inl ⟨by kernel_rfl, by intro w hSw; (try dsimp only at hSw); go_simp; first | done | with_reducible rfl⟩
                                              case restT13 =>
                                                try simp only [Act.put, List.setIfInBounds_toArray, List.set_cons_zero, List.set_cons_succ]
                                                refine wpAnyH_take (i := 14) (oi := ?oT14) (v := ?vT14) ?hiT14 (by kernel_rfl) (by kernel_rfl) (by kernel_rfl) ?hQT14 ?hyT14 (by assumption) ?restT14
                                                case hiT14 => simp only [List.size_toArray, List.length_cons, List.length_nil, List.getElem?_toArray, List.getElem?_cons_succ, List.getElem?_cons_zero] <;> rfl
                                                case hQT14 => exact fun _ _ _ h => h
                                                case hyT14 => exact Or.inl ⟨by kernel_rfl, by intro w hSw; (try dsimp only at hSw); go_simp; first | done | with_reducible rfl⟩
                                                case restT14 =>
                                                  try simp only [Act.put, List.setIfInBounds_toArray, List.set_cons_zero, List.set_cons_succ]
                                                  refine wpAnyH_take (i := 15) (oi := ?oT15) (v := ?vT15) ?hiT15 (by kernel_rfl) (by kernel_rfl) (by kernel_rfl) ?hQT15 ?hyT15 (by assumption) ?restT15
                                                  case hiT15 => simp only [List.size_toArray, List.length_cons, List.length_nil, List.getElem?_toArray, List.getElem?_cons_succ, List.getElem?_cons_zero] <;> rfl
                                                  case hQT15 => exact fun _ _ _ h => h
                                                  case hyT15 => exact Or.inl ⟨by kernel_rfl, by intro w hSw; (try dsimp only at hSw); go_simp; first | done | with_reducible rfl⟩
                                                  case restT15 =>
                                                    try simp only [Act.put, List.setIfInBounds_toArray, List.set_cons_zero, List.set_cons_succ]
                                                    refine wpAnyH_take (i := 16) (oi := ?oT16) (v := ?vT16) ?hiT16 (by kernel_rfl) (by kernel_rfl) (by kernel_rfl) ?hQT16 ?hyT16 (by assumption) ?restT16
                                                    case hiT16 => simp only [List.size_toArray, List.length_cons, List.length_nil, List.getElem?_toArray, List.getElem?_cons_succ, List.getElem?_cons_zero] <;> rfl
                                                    case hQT16 => exact fun _ _ _ h => h
                                                    case hyT16 => exact Or.inl ⟨by kernel_rfl, by intro w hSw; (try dsimp only at hSw); go_simp; first | done | with_reducible rfl⟩
                                                    case restT16 =>
                                                      try simp only [Act.put, List.setIfInBounds_toArray, List.set_cons_zero, List.set_cons_succ]
                                                      refine wpAnyH_ready (rs := [17]) (by kernel_rfl) (by simp) (AllReadyH.cons (o := ?oT17) ?hiT17 (fun K hK => ?stepT17) AllReadyH.nil)
                                                      case hiT17 => simp only [List.size_toArray, List.length_cons, List.length_nil, List.getElem?_toArray, List.getElem?_cons_succ, List.getElem?_cons_zero] <;> rfl
                                                      case stepT17 =>
                                                        go_simp
                                                        (go_at_call 21; with_reducible refine (LKac.out _ HBW.out).mono ?_; rintro e w9 ⟨rfl, hb9⟩; have HBW := Aside0.mk (below_step HBW.out hb9); clear hb9)
                                                        go_wp2_with fail
                                                        refine hK.out _ _ ?hST17 (fun hHeld => ?restT17)
                                                        case hST17 => with_reducible exact ⟨HBW.out, HCells.out _ HBW.out⟩
                                                        case restT17 =>
                                                          clear hK K
                                                          try simp only [Act.put, List.setIfInBounds_toArray, List.set_cons_zero, List.set_cons_succ]
                                                          refine wpAnyH_take (i := 18) (oi := ?oT18) (v := ?vT18) ?hiT18 (by kernel_rfl) (by kernel_rfl) (by kernel_rfl) ?hQT18 ?hyT18 (by assumption) ?restT18
                                                          case hiT18 => simp only [List.size_toArray, List.length_cons, List.length_nil, List.getElem?_toArray, List.getElem?_cons_succ, List.getElem?_cons_zero] <;> rfl
                                                          case hQT18 => exact fun _ _ _ h => h
                                                          case hyT18 => exact Or.inl ⟨by kernel_rfl, by intro w hSw; (try dsimp only at hSw); go_simp; first | done | with_reducible rfl⟩
                                                          case restT18 =>
                                                            try simp only [Act.put, List.setIfInBounds_toArray, List.set_cons_zero, List.set_cons_succ]
                                                            refine wpAnyH_take (i := 19) (oi := ?oT19) (v := ?vT19) ?hiT19 (by kernel_rfl) (by kernel_rfl) (by kernel_rfl) ?hQT19 ?hyT19 (by assumption) ?restT19
                                                            case hiT19 => simp only [List.size_toArray, List.length_cons, List.length_nil, List.getElem?_toArray, List.getElem?_cons_succ, List.getElem?_cons_zero] <;> rfl
                                                            case hQT19 => exact fun _ _ _ h => h
                                                            case hyT19 => exact Or.inl ⟨by kernel_rfl, by intro w hSw; (try dsimp only at hSw); go_simp; first | done | with_reducible rfl⟩
                                                            case restT19 =>
                                                              try simp only [Act.put, List.setIfInBounds_toArray, List.set_cons_zero, List.set_cons_succ]
                                                              refine wpAnyH_take (i := 20) (oi := ?oT20) (v := ?vT20) ?hiT20 (by kernel_rfl) (by kernel_rfl) (by kernel_rfl) ?hQT20 ?hyT20 (by assumption) ?restT20
                                                              case hiT20 => simp only [List.size_toArray, List.length_cons, List.length_nil, List.getElem?_toArray, List.getElem?_cons_succ, List.getElem?_cons_zero] <;> rfl
                                                              case hQT20 => exact fun _ _ _ h => h
                                                              case hyT20 => exact Or.inl ⟨by kernel_rfl, by intro w hSw; (try dsimp only at hSw); go_simp; first | done | with_reducible rfl⟩
                                                              case restT20 =>
                                                                try simp only [Act.put, List.setIfInBounds_toArray, List.set_cons_zero, List.set_cons_succ]
                                                                refine wpAnyH_take (i := 21) (oi := ?oT21) (v := ?vT21) ?hiT21 (by kernel_rfl) (by kernel_rfl) (by kernel_rfl) ?hQT21 ?hyT21 (by assumption) ?restT21
                                                                case hiT21 => simp only [List.size_toArray, List.length_cons, List.length_nil, List.getElem?_toArray, List.getElem?_cons_succ, List.getElem?_cons_zero] <;> rfl
                                                                case hQT21 => exact fun _ _ _ h => h
                                                                case hyT21 => exact Or.inl ⟨by kernel_rfl, by intro w hSw; (try dsimp only at hSw); go_simp; first | done | with_reducible rfl⟩
                                                                case restT21 =>
                                                                  try simp only [Act.put, List.setIfInBounds_toArray, List.set_cons_zero, List.set_cons_succ]
                                                                  refine wpAnyH_take (i := 22) (oi := ?oT22) (v := ?vT22) ?hiT22 (by kernel_rfl) (by kernel_rfl) (by kernel_rfl) ?hQT22 ?hyT22 (by assumption) ?restT22
                                                                  case hiT22 => simp only [List.size_toArray, List.length_cons, List.length_nil, List.getElem?_toArray, List.getElem?_cons_succ, List.getElem?_cons_zero] <;> rfl
                                                                  case hQT22 => exact fun _ _ _ h => h
                                                                  case hyT22 => exact Or.inl ⟨by kernel_rfl, by intro w hSw; (try dsimp only at hSw); go_simp; first | done | with_reducible rfl⟩
                                                                  case restT22 =>
                                                                    try simp only [Act.put, List.setIfInBounds_toArray, List.set_cons_zero, List.set_cons_succ]
                                                                    refine wpAnyH_take (i := 23) (oi := ?oT23) (v := ?vT23) ?hiT23 (by kernel_rfl) (by kernel_rfl) (by kernel_rfl) ?hQT23 ?hyT23 (by assumption) ?restT23
                                                                    case hiT23 => simp only [List.size_toArray, List.length_cons, List.length_nil, List.getElem?_toArray, List.getElem?_cons_succ, List.getElem?_cons_zero] <;> rfl
                                                                    case hQT23 => exact fun _ _ _ h => h
                                                                    case hyT23 => exact Or.inl ⟨by kernel_rfl, by intro w hSw; (try dsimp only at hSw); go_simp; first | done | with_reducible rfl⟩
                                                                    case restT23 =>
                                                                      try simp only [Act.put, List.setIfInBounds_toArray, List.set_cons_zero, List.set_cons_succ]
                                                                      refine wpAnyH_take (i := 24) (oi := ?oT24) (v := ?vT24) ?hiT24 (by kernel_rfl) (by kernel_rfl) (by kernel_rfl) ?hQT24 ?hyT24 (by assumption) ?restT24
                                                                      case hiT24 => simp only [List.size_toArray, List.length_cons, List.length_nil, List.getElem?_toArray, List.getElem?_cons_succ, List.getElem?_cons_zero] <;> rfl
                                                                      case hQT24 => exact fun _ _ _ h => h
                                                                      case hyT24 => exact Or.inl ⟨by kernel_rfl, by intro w hSw; (try dsimp only at hSw); go_simp; first | done | with_reducible rfl⟩
                                                                      case restT24 =>
                                                                        try simp only [Act.put, List.setIfInBounds_toArray, List.set_cons_zero, List.set_cons_succ]
                                                                        refine wpAnyH_take (i := 25) (oi := ?oT25) (v := ?vT25) ?hiT25 (by kernel_rfl) (by kernel_rfl) (by kernel_rfl) ?hQT25 ?hyT25 (by assumption) ?restT25
                                                                        case hiT25 => simp only [List.size_toArray, List.length_cons, List.length_nil, List.getElem?_toArray, List.getElem?_cons_succ, List.getElem?_cons_zero] <;> rfl
                                                                        case hQT25 => exact fun _ _ _ h => h
                                                                        case hyT25 => exact Or.inl ⟨by kernel_rfl, by intro w hSw; (try dsimp only at hSw); go_simp; first | done | with_reducible rfl⟩
                                                                        case restT25 =>
                                                                          try simp only [Act.put, List.setIfInBounds_toArray, List.set_cons_zero, List.set_cons_succ]
                                                                          refine wpAnyH_take (i := 26) (oi := ?oT26) (v := ?vT26) ?hiT26 (by kernel_rfl) (by kernel_rfl) (by kernel_rfl) ?hQT26 ?hyT26 (by assumption) ?restT26
                                                                          case hiT26 => simp only [List.size_toArray, List.length_cons, List.length_nil, List.getElem?_toArray, List.getElem?_cons_succ, List.getElem?_cons_zero] <;> rfl
                                                                          case hQT26 => exact fun _ _ _ h => h
                                                                          case hyT26 => exact Or.inl ⟨by kernel_rfl, by intro w hSw; (try dsimp only at hSw); go_simp; first | done | with_reducible rfl⟩
                                                                          case restT26 =>
                                                                            try simp only [Act.put, List.setIfInBounds_toArray, List.set_cons_zero, List.set_cons_succ]
                                                                            refine wpAnyH_take (i := 27) (oi := ?oT27) (v := ?vT27) ?hiT27 (by kernel_rfl) (by kernel_rfl) (by kernel_rfl) ?hQT27 ?hyT27 (by assumption) ?restT27
                                                                            case hiT27 => simp only [List.size_toArray, List.length_cons, List.length_nil, List.getElem?_toArray, List.getElem?_cons_succ, List.getElem?_cons_zero] <;> rfl
                                                                            case hQT27 => exact fun _ _ _ h => h
                                                                            case hyT27 => exact Or.inl ⟨by kernel_rfl, by intro w hSw; (try dsimp only at hSw); go_simp; first | done | with_reducible rfl⟩
                                                                            case restT27 =>
                                                                              try simp only [Act.put, List.setIfInBounds_toArray, List.set_cons_zero, List.set_cons_succ]
                                                                              refine wpAnyH_take (i := 28) (oi := ?oT28) (v := ?vT28) ?hiT28 (by kernel_rfl) (by kernel_rfl) (by kernel_rfl) ?hQT28 ?hyT28 (by assumption) ?restT28
                                                                              case hiT28 => simp only [List.size_toArray, List.length_cons, List.length_nil, List.getElem?_toArray, List.getElem?_cons_succ, List.getElem?_cons_zero] <;> rfl
                                                                              case hQT28 => exact fun _ _ _ h => h
                                                                              case hyT28 => exact Or.inl ⟨by kernel_rfl, by intro w hSw; (try dsimp only at hSw); go_simp; first | done | with_reducible rfl⟩
                                                                              case restT28 =>
                                                                                try simp only [Act.put, List.setIfInBounds_toArray, List.set_cons_zero, List.set_cons_succ]
                                                                                refine wpAnyH_take (i := 29) (oi := ?oT29) (v := ?vT29) ?hiT29 (by kernel_rfl) (by kernel_rfl) (by kernel_rfl) ?hQT29 ?hyT29 (by assumption) ?restT29
                                                                                case hiT29 => simp only [List.size_toArray, List.length_cons, List.length_nil, List.getElem?_toArray, List.getElem?_cons_succ, List.getElem?_cons_zero] <;> rfl
                                                                                case hQT29 => exact fun _ _ _ h => h
                                                                                case hyT29 => exact Or.inl ⟨by kernel_rfl, by intro w hSw; (try dsimp only at hSw); go_simp; first | done | with_reducible rfl⟩
                                                                                case restT29 =>
                                                                                  try simp only [Act.put, List.setIfInBounds_toArray, List.set_cons_zero, List.set_cons_succ]
                                                                                  refine wpAnyH_take (i := 30) (oi := ?oT30) (v := ?vT30) ?hiT30 (by kernel_rfl) (by kernel_rfl) (by kernel_rfl) ?hQT30 ?hyT30 (by assumption) ?restT30
                                                                                  case hiT30 => simp only [List.size_toArray, List.length_cons, List.length_nil, List.getElem?_toArray, List.getElem?_cons_succ, List.getElem?_cons_zero] <;> rfl
                                                                                  case hQT30 => exact fun _ _ _ h => h
                                                                                  case hyT30 => exact Or.inl ⟨by kernel_rfl, by intro w hSw; (try dsimp only at hSw); go_simp; first | done | with_reducible rfl⟩
                                                                                  case restT30 =>
                                                                                    try simp only [Act.put, List.setIfInBounds_toArray, List.set_cons_zero, List.set_cons_succ]
                                                                                    refine wpAnyH_take (i := 31) (oi := ?oT31) (v := ?vT31) ?hiT31 (by kernel_rfl) (by kernel_rfl) (by kernel_rfl) ?hQT31 ?hyT31 (by assumption) ?restT31
                                                                                    case hiT31 => simp only [List.size_toArray, List.length_cons, List.length_nil, List.getElem?_toArray, List.getElem?_cons_succ, List.getElem?_cons_zero] <;> rfl
                                                                                    case hQT31 => exact fun _ _ _ h => h
                                                                                    case hyT31 => exact Or.inl ⟨by kernel_rfl, by intro w hSw; (try dsimp only at hSw); go_simp; first | done | with_reducible rfl⟩
                                                                                    case restT31 =>
                                                                                      try simp only [Act.put, List.setIfInBounds_toArray, List.set_cons_zero, List.set_cons_succ]
                                                                                      refine wpAnyH_take (i := 32) (oi := ?oT32) (v := ?vT32) ?hiT32 (by kernel_rfl) (by kernel_rfl) (by kernel_rfl) ?hQT32 ?hyT32 (by assumption) ?restT32
                                                                                      case hiT32 => simp only [List.size_toArray, List.length_cons, List.length_nil, List.getElem?_toArray, List.getElem?_cons_succ, List.getElem?_cons_zero] <;> rfl
                                                                                      case hQT32 => exact fun _ _ _ h => h
                                                                                      case hyT32 => exact Or.inl ⟨by kernel_rfl, by intro w hSw; (try dsimp only at hSw); go_simp; first | done | with_reducible rfl⟩
                                                                                      case restT32 =>
                                                                                        try simp only [Act.put, List.setIfInBounds_toArray, List.set_cons_zero, List.set_cons_succ]
                                                                                        refine wpAnyH_take (i := 33) (oi := ?oT33) (v := ?vT33) ?hiT33 (by kernel_rfl) (by kernel_rfl) (by kernel_rfl) ?hQT33 ?hyT33 (by assumption) ?restT33
                                                                                        case hiT33 => simp only [List.size_toArray, List.length_cons, List.length_nil, List.getElem?_toArray, List.getElem?_cons_succ, List.getElem?_cons_zero] <;> rfl
                                                                                        case hQT33 => exact fun _ _ _ h => h
                                                                                        case hyT33 => exact Or.inl ⟨by kernel_rfl, by intro w hSw; (try dsimp only at hSw); go_simp; first | done | with_reducible rfl⟩
                                                                                        case restT33 =>
                                                                                          try simp only [Act.put, List.setIfInBounds_toArray, List.set_cons_zero, List.set_cons_succ]
                                                                                          refine wpAnyH_take (i := 34) (oi := ?oT34) (v := ?vT34) ?hiT34 (by kernel_rfl) (by kernel_rfl) (by kernel_rfl) ?hQT34 ?hyT34 (by assumption) ?restT34
                                                                                          case hiT34 => simp only [List.size_toArray, List.length_cons, List.length_nil, List.getElem?_toArray, List.getElem?_cons_succ, List.getElem?_cons_zero] <;> rfl
                                                                                          case hQT34 => exact fun _ _ _ h => h
                                                                                          case hyT34 => exact Or.inl ⟨by kernel_rfl, by intro w hSw; (try dsimp only at hSw); go_simp; first | done | with_reducible rfl⟩
                                                                                          case restT34 =>
                                                                                            try simp only [Act.put, List.setIfInBounds_toArray, List.set_cons_zero, List.set_cons_succ]
                                                                                            refine wpAnyH_take (i := 35) (oi := ?oT35) (v := ?vT35) ?hiT35 (by kernel_rfl) (by kernel_rfl) (by kernel_rfl) ?hQT35 ?hyT35 (by assumption) ?restT35
                                                                                            case hiT35 => simp only [List.size_toArray, List.length_cons, List.length_nil, List.getElem?_toArray, List.getElem?_cons_succ, List.getElem?_cons_zero] <;> rfl
                                                                                            case hQT35 => exact fun _ _ _ h => h
                                                                                            case hyT35 => exact Or.inl ⟨by kernel_rfl, by intro w hSw; (try dsimp only at hSw); go_simp; first | done | with_reducible rfl⟩
                                                                                            case restT35 =>
                                                                                              try simp only [Act.put, List.setIfInBounds_toArray, List.set_cons_zero, List.set_cons_succ]
                                                                                              refine wpAnyH_take (i := 36) (oi := ?oT36) (v := ?vT36) ?hiT36 (by kernel_rfl) (by kernel_rfl) (by kernel_rfl) ?hQT36 ?hyT36 (by assumption) ?restT36
                                                                                              case hiT36 => simp only [List.size_toArray, List.length_cons, List.length_nil, List.getElem?_toArray, List.getElem?_cons_succ, List.getElem?_cons_zero] <;> rfl
                                                                                              case hQT36 => exact fun _ _ _ h => h
                                                                                              case hyT36 => exact Or.inl ⟨by kernel_rfl, by intro w hSw; (try dsimp only at hSw); go_simp; first | done | with_reducible rfl⟩
                                                                                              case restT36 =>
                                                                                                try simp only [Act.put, List.setIfInBounds_toArray, List.set_cons_zero, List.set_cons_succ]
                                                                                                refine wpAnyH_take (i := 38) (oi := ?oT38) (v := ?vT38) ?hiT38 (by kernel_rfl) (by kernel_rfl) (by kernel_rfl) ?hQT38 ?hyT38 (by assumption) ?restT38
                                                                                                case hiT38 => simp only [List.size_toArray, List.length_cons, List.length_nil, List.getElem?_toArray, List.getElem?_cons_succ, List.getElem?_cons_zero] <;> rfl
                                                                                                case hQT38 => exact fun _ _ _ h => h
                                                                                                case hyT38 => exact Or.inl ⟨by kernel_rfl, by intro w hSw; (try dsimp only at hSw); go_simp; first | done | with_reducible rfl⟩
                                                                                                case restT38 =>
                                                                                                  try simp only [Act.put, List.setIfInBounds_toArray, List.set_cons_zero, List.set_cons_succ]
                                                                                                  refine wpAnyH_ready (rs := [37]) (by kernel_rfl) (by simp) (AllReadyH.cons (o := ?oT37) ?hiT37 (fun K hK => ?stepT37) AllReadyH.nil)
                                                                                                  case hiT37 => simp only [List.size_toArray, List.length_cons, List.length_nil, List.getElem?_toArray, List.getElem?_cons_succ, List.getElem?_cons_zero] <;> rfl
                                                                                                  case stepT37 =>
                                                                                                    go_simp
                                                                                                    (go_at_call 21; with_reducible refine (LMab.out _ HBW.out).mono ?_; rintro e w9 ⟨rfl, hb9⟩; have HBW := Aside0.mk (below_step HBW.out hb9); clear hb9)
                                                                                                    go_wp2_with fail
                                                                                                    refine hK.out _ _ ?hST37 (fun hHeld => ?restT37)
                                                                                                    case hST37 => with_reducible exact ⟨HBW.out, HCells.out _ HBW.out⟩
                                                                                                    case restT37 =>
                                                                                                      clear hK K
                                                                                                      try simp only [Act.put, List.setIfInBounds_toArray, List.set_cons_zero, List.set_cons_succ]
                                                                                                      refine wpAnyH_take (i := 39) (oi := ?oT39) (v := ?vT39) ?hiT39 (by kernel_rfl) (by kernel_rfl) (by kernel_rfl) ?hQT39 ?hyT39 (by assumption) ?restT39
                                                                                                      case hiT39 => simp only [List.size_toArray, List.length_cons, List.length_nil, List.getElem?_toArray, List.getElem?_cons_succ, List.getElem?_cons_zero] <;> rfl
                                                                                                      case hQT39 => exact fun _ _ _ h => h
                                                                                                      case hyT39 => exact Or.inl ⟨by kernel_rfl, by intro w hSw; (try dsimp only at hSw); go_simp; first | done | with_reducible rfl⟩
                                                                                                      case restT39 =>
                                                                                                        try simp only [Act.put, List.setIfInBounds_toArray, List.set_cons_zero, List.set_cons_succ]
                                                                                                        refine wpAnyH_take (i := 40) (oi := ?oT40) (v := ?vT40) ?hiT40 (by kernel_rfl) (by kernel_rfl) (by kernel_rfl) ?hQT40 ?hyT40 (by assumption) ?restT40
                                                                                                        case hiT40 => simp only [List.size_toArray, List.length_cons, List.length_nil, List.getElem?_toArray, List.getElem?_cons_succ, List.getElem?_cons_zero] <;> rfl
                                                                                                        case hQT40 => exact fun _ _ _ h => h
                                                                                                        case hyT40 => exact Or.inl ⟨by kernel_rfl, by intro w hSw; (try dsimp only at hSw); go_simp; first | done | with_reducible rfl⟩
                                                                                                        case restT40 =>
                                                                                                          try simp only [Act.put, List.setIfInBounds_toArray, List.set_cons_zero, List.set_cons_succ]
                                                                                                          refine wpAnyH_take (i := 41) (oi := ?oT41) (v := ?vT41) ?hiT41 (by kernel_rfl) (by kernel_rfl) (by kernel_rfl) ?hQT41 ?hyT41 (by assumption) ?restT41
                                                                                                          case hiT41 => simp only [List.size_toArray, List.length_cons, List.length_nil, List.getElem?_toArray, List.getElem?_cons_succ, List.getElem?_cons_zero] <;> rfl
                                                                                                          case hQT41 => exact fun _ _ _ h => h
                                                                                                          case hyT41 => exact Or.inl ⟨by kernel_rfl, by intro w hSw; (try dsimp only at hSw); go_simp; first | done | with_reducible rfl⟩
                                                                                                          case restT41 =>
                                                                                                            try simp only [Act.put, List.setIfInBounds_toArray, List.set_cons_zero, List.set_cons_succ]
                                                                                                            refine wpAnyH_take (i := 42) (oi := ?oT42) (v := ?vT42) ?hiT42 (by kernel_rfl) (by kernel_rfl) (by kernel_rfl) ?hQT42 ?hyT42 (by assumption) ?restT42
                                                                                                            case hiT42 => simp only [List.size_toArray, List.length_cons, List.length_nil, List.getElem?_toArray, List.getElem?_cons_succ, List.getElem?_cons_zero] <;> rfl
                                                                                                            case hQT42 => exact fun _ _ _ h => h
                                                                                                            case hyT42 => exact Or.inl ⟨by kernel_rfl, by intro w hSw; (try dsimp only at hSw); go_simp; first | done | with_reducible rfl⟩
                                                                                                            case restT42 =>
                                                                                                              try simp only [Act.put, List.setIfInBounds_toArray, List.set_cons_zero, List.set_cons_succ]
                                                                                                              refine wpAnyH_take (i := 43) (oi := ?oT43) (v := ?vT43) ?hiT43 (by kernel_rfl) (by kernel_rfl) (by kernel_rfl) ?hQT43 ?hyT43 (by assumption) ?restT43
                                                                                                              case hiT43 => simp only [List.size_toArray, List.length_cons, List.length_nil, List.getElem?_toArray, List.getElem?_cons_succ, List.getElem?_cons_zero] <;> rfl
                                                                                                              case hQT43 => exact fun _ _ _ h => h
                                                                                                              case hyT43 => exact Or.inl ⟨by kernel_rfl, by intro w hSw; (try dsimp only at hSw); go_simp; first | done | with_reducible rfl⟩
                                                                                                              case restT43 =>
                                                                                                                try simp only [Act.put, List.setIfInBounds_toArray, List.set_cons_zero, List.set_cons_succ]
                                                                                                                refine wpAnyH_take (i := 44) (oi := ?oT44) (v := ?vT44) ?hiT44 (by kernel_rfl) (by kernel_rfl) (by kernel_rfl) ?hQT44 ?hyT44 (by assumption) ?restT44
                                                                                                                case hiT44 => simp only [List.size_toArray, List.length_cons, List.length_nil, List.getElem?_toArray, List.getElem?_cons_succ, List.getElem?_cons_zero] <;> rfl
                                                                                                                case hQT44 => exact fun _ _ _ h => h
                                                                                                                case hyT44 => exact Or.inl ⟨by kernel_rfl, by intro w hSw; (try dsimp only at hSw); go_simp; first | done | with_reducible rfl⟩
                                                                                                                case restT44 =>
                                                                                                                  try simp only [Act.put, List.setIfInBounds_toArray, List.set_cons_zero, List.set_cons_succ]
                                                                                                                  refine wpAnyH_take (i := 45) (oi := ?oT45) (v := ?vT45) ?hiT45 (by kernel_rfl) (by kernel_rfl) (by kernel_rfl) ?hQT45 ?hyT45 (by assumption) ?restT45
                                                                                                                  case hiT45 => simp only [List.size_toArray, List.length_cons, List.length_nil, List.getElem?_toArray, List.getElem?_cons_succ, List.getElem?_cons_zero] <;> rfl
                                                                                                                  case hQT45 => exact fun _ _ _ h => h
                                                                                                                  case hyT45 => exact Or.inl ⟨by kernel_rfl, by intro w hSw; (try dsimp only at hSw); go_simp; first | done | with_reducible rfl⟩
                                                                                                                  case restT45 =>
                                                                                                                    try simp only [Act.put, List.setIfInBounds_toArray, List.set_cons_zero, List.set_cons_succ]
                                                                                                                    refine wpAnyH_take (i := 46) (oi := ?oT46) (v := ?vT46) ?hiT46 (by kernel_rfl) (by kernel_rfl) (by kernel_rfl) ?hQT46 ?hyT46 (by assumption) ?restT46
                                                                                                                    case hiT46 => simp only [List.size_toArray, List.length_cons, List.length_nil, List.getElem?_toArray, List.getElem?_cons_succ, List.getElem?_cons_zero] <;> rfl
                                                                                                                    case hQT46 => exact fun _ _ _ h => h
                                                                                                                    case hyT46 => exact Or.inl ⟨by kernel_rfl, by intro w hSw; (try dsimp only at hSw); go_simp; first | done | with_reducible rfl⟩
                                                                                                                    case restT46 =>
                                                                                                                      try simp only [Act.put, List.setIfInBounds_toArray, List.set_cons_zero, List.set_cons_succ]
                                                                                                                      refine wpAnyH_take (i := 47) (oi := ?oT47) (v := ?vT47) ?hiT47 (by kernel_rfl) (by kernel_rfl) (by kernel_rfl) ?hQT47 ?hyT47 (by assumption) ?restT47
                                                                                                                      case hiT47 => simp only [List.size_toArray, List.length_cons, List.length_nil, List.getElem?_toArray, List.getElem?_cons_succ, List.getElem?_cons_zero] <;> rfl
                                                                                                                      case hQT47 => exact fun _ _ _ h => h
                                                                                                                      case hyT47 => exact Or.inl ⟨by kernel_rfl, by intro w hSw; (try dsimp only at hSw); go_simp; first | done | with_reducible rfl⟩
                                                                                                                      case restT47 =>
                                                                                                                        try simp only [Act.put, List.setIfInBounds_toArray, List.set_cons_zero, List.set_cons_succ]
                                                                                                                        refine wpAnyH_take (i := 48) (oi := ?oT48) (v := ?vT48) ?hiT48 (by kernel_rfl) (by kernel_rfl) (by kernel_rfl) ?hQT48 ?hyT48 (by assumption) ?restT48
                                                                                                                        case hiT48 => simp only [List.size_toArray, List.length_cons, List.length_nil, List.getElem?_toArray, List.getElem?_cons_succ, List.getElem?_cons_zero] <;> rfl
                                                                                                                        case hQT48 => exact fun _ _ _ h => h
                                                                                                                        case hyT48 => exact Or.inl ⟨by kernel_rfl, by intro w hSw; (try dsimp only at hSw); go_simp; first | done | with_reducible rfl⟩
                                                                                                                        case restT48 =>
                                                                                                                          try simp only [Act.put, List.setIfInBounds_toArray, List.set_cons_zero, List.set_cons_succ]
                                                                                                                          refine wpAnyH_take (i := 49) (oi := ?oT49) (v := ?vT49) ?hiT49 (by kernel_rfl) (by kernel_rfl) (by kernel_rfl) ?hQT49 ?hyT49 (by assumption) ?restT49
                                                                                                                          case hiT49 => simp only [List.size_toArray, List.length_cons, List.length_nil, List.getElem?_toArray, List.getElem?_cons_succ, List.getElem?_cons_zero] <;> rfl
                                                                                                                          case hQT49 => exact fun _ _ _ h => h
                                                                                                                          case hyT49 => exact Or.inl ⟨by kernel_rfl, by intro w hSw; (try dsimp only at hSw); go_simp; first | done | with_reducible rfl⟩
                                                                                                                          case restT49 =>
                                                                                                                            try simp only [Act.put, List.setIfInBounds_toArray, List.set_cons_zero, List.set_cons_succ]
                                                                                                                            refine wpAnyH_take (i := 50) (oi := ?oT50) (v := ?vT50) ?hiT50 (by kernel_rfl) (by kernel_rfl) (by kernel_rfl) ?hQT50 ?hyT50 (by assumption) ?restT50
                                                                                                                            case hiT50 => simp only [List.size_toArray, List.length_cons, List.length_nil, List.getElem?_toArray, List.getElem?_cons_succ, List.getElem?_cons_zero] <;> rfl
                                                                                                                            case hQT50 => exact fun _ _ _ h => h
                                                                                                                            case hyT50 => exact Or.inl ⟨by kernel_rfl, by intro w hSw; (try dsimp only at hSw); go_simp; first | done | with_reducible rfl⟩
                                                                                                                            case restT50 =>
                                                                                                                              try simp only [Act.put, List.setIfInBounds_toArray, List.set_cons_zero, List.set_cons_succ]
                                                                                                                              refine wpAnyH_take (i := 51) (oi := ?oT51) (v := ?vT51) ?hiT51 (by kernel_rfl) (by kernel_rfl) (by kernel_rfl) ?hQT51 ?hyT51 (by assumption) ?restT51
                                                                                                                              case hiT51 => simp only [List.size_toArray, List.length_cons, List.length_nil, List.getElem?_toArray, List.getElem?_cons_succ, List.getElem?_cons_zero] <;> rfl
                                                                                                                              case hQT51 => exact fun _ _ _ h => h
                                                                                                                              case hyT51 => exact Or.inl ⟨by kernel_rfl, by intro w hSw; (try dsimp only at hSw); go_simp; first | done | with_reducible rfl⟩
                                                                                                                              case restT51 =>
                                                                                                                                try simp only [Act.put, List.setIfInBounds_toArray, List.set_cons_zero, List.set_cons_succ]
                                                                                                                                refine wpAnyH_take (i := 52) (oi := ?oT52) (v := ?vT52) ?hiT52 (by kernel_rfl) (by kernel_rfl) (by kernel_rfl) ?hQT52 ?hyT52 (by assumption) ?restT52
                                                                                                                                case hiT52 => simp only [List.size_toArray, List.length_cons, List.length_nil, List.getElem?_toArray, List.getElem?_cons_succ, List.getElem?_cons_zero] <;> rfl
                                                                                                                                case hQT52 => exact fun _ _ _ h => h
                                                                                                                                case hyT52 => exact Or.inl ⟨by kernel_rfl, by intro w hSw; (try dsimp only at hSw); go_simp; first | done | with_reducible rfl⟩
                                                                                                                                case restT52 =>
                                                                                                                                  try simp only [Act.put, List.setIfInBounds_toArray, List.set_cons_zero, List.set_cons_succ]
                                                                                                                                  refine wpAnyH_take (i := 53) (oi := ?oT53) (v := ?vT53) ?hiT53 (by kernel_rfl) (by kernel_rfl) (by kernel_rfl) ?hQT53 ?hyT53 (by assumption) ?restT53
                                                                                                                                  case hiT53 => simp only [List.size_toArray, List.length_cons, List.length_nil, List.getElem?_toArray, List.getElem?_cons_succ, List.getElem?_cons_zero] <;> rfl
                                                                                                                                  case hQT53 => exact fun _ _ _ h => h
                                                                                                                                  case hyT53 => exact Or.inl ⟨by kernel_rfl, by intro w hSw; (try dsimp only at hSw); go_simp; first | done | with_reducible rfl⟩
                                                                                                                                  case restT53 =>
                                                                                                                                    try simp only [Act.put, List.setIfInBounds_toArray, List.set_cons_zero, List.set_cons_succ]
                                                                                                                                    refine wpAnyH_take (i := 54) (oi := ?oT54) (v := ?vT54) ?hiT54 (by kernel_rfl) (by kernel_rfl) (by kernel_rfl) ?hQT54 ?hyT54 (by assumption) ?restT54
                                                                                                                                    case hiT54 => simp only [List.size_toArray, List.length_cons, List.length_nil, List.getElem?_toArray, List.getElem?_cons_succ, List.getElem?_cons_zero] <;> rfl
                                                                                                                                    case hQT54 => exact fun _ _ _ h => h
                                                                                                                                    case hyT54 => exact Or.inl ⟨by kernel_rfl, by intro w hSw; (try dsimp only at hSw); go_simp; first | done | with_reducible rfl⟩
                                                                                                                                    case restT54 =>
                                                                                                                                      try simp only [Act.put, List.setIfInBounds_toArray, List.set_cons_zero, List.set_cons_succ]
                                                                                                                                      refine wpAnyH_take (i := 55) (oi := ?oT55) (v := ?vT55) ?hiT55 (by kernel_rfl) (by kernel_rfl) (by kernel_rfl) ?hQT55 ?hyT55 (by assumption) ?restT55
                                                                                                                                      case hiT55 => simp only [List.size_toArray, List.length_cons, List.length_nil, List.getElem?_toArray, List.getElem?_cons_succ, List.getElem?_cons_zero] <;> rfl
                                                                                                                                      case hQT55 => exact fun _ _ _ h => h
                                                                                                                                      case hyT55 => exact Or.inl ⟨by kernel_rfl, by intro w hSw; (try dsimp only at hSw); go_simp; first | done | with_reducible rfl⟩
                                                                                                                                      case restT55 =>
                                                                                                                                        try simp only [Act.put, List.setIfInBounds_toArray, List.set_cons_zero, List.set_cons_succ]
                                                                                                                                        refine wpAnyH_take (i := 56) (oi := ?oT56) (v := ?vT56) ?hiT56 (by kernel_rfl) (by kernel_rfl) (by kernel_rfl) ?hQT56 ?hyT56 (by assumption) ?restT56
                                                                                                                                        case hiT56 => simp only [List.size_toArray, List.length_cons, List.length_nil, List.getElem?_toArray, List.getElem?_cons_succ, List.getElem?_cons_zero] <;> rfl
                                                                                                                                        case hQT56 => exact fun _ _ _ h => h
                                                                                                                                        case hyT56 => exact Or.inl ⟨by kernel_rfl, by intro w hSw; (try dsimp only at hSw); go_simp; first | done | with_reducible rfl⟩
                                                                                                                                        case restT56 =>
                                                                                                                                          try simp only [Act.put, List.setIfInBounds_toArray, List.set_cons_zero, List.set_cons_succ]
                                                                                                                                          refine wpAnyH_take (i := 57) (oi := ?oT57) (v := ?vT57) ?hiT57 (by kernel_rfl) (by kernel_rfl) (by kernel_rfl) ?hQT57 ?hyT57 (by assumption) ?restT57
                                                                                                                                          case hiT57 => simp only [List.size_toArray, List.length_cons, List.length_nil, List.getElem?_toArray, List.getElem?_cons_succ, List.getElem?_cons_zero] <;> rfl
                                                                                                                                          case hQT57 => exact fun _ _ _ h => h
                                                                                                                                          case hyT57 => exact Or.inl ⟨by kernel_rfl, by intro w hSw; (try dsimp only at hSw); go_simp; first | done | with_reducible rfl⟩
                                                                                                                                          case restT57 =>
                                                                                                                                            try simp only [Act.put, List.setIfInBounds_toArray, List.set_cons_zero, List.set_cons_succ]
                                                                                                                                            refine wpAnyH_take (i := 58) (oi := ?oT58) (v := ?vT58) ?hiT58 (by kernel_rfl) (by kernel_rfl) (by kernel_rfl) ?hQT58 ?hyT58 (by assumption) ?restT58
                                                                                                                                            case hiT58 => simp only [List.size_toArray, List.length_cons, List.length_nil, List.getElem?_toArray, List.getElem?_cons_succ, List.getElem?_cons_zero] <;> rfl
                                                                                                                                            case hQT58 => exact fun _ _ _ h => h
                                                                                                                                            case hyT58 => exact Or.inl ⟨by kernel_rfl, by intro w hSw; (try dsimp only at hSw); go_simp; first | done | with_reducible rfl⟩
                                                                                                                                            case restT58 =>
                                                                                                                                              try simp only [Act.put, List.setIfInBounds_toArray, List.set_cons_zero, List.set_cons_succ]
                                                                                                                                              refine wpAnyH_take (i := 59) (oi := ?oT59) (v := ?vT59) ?hiT59 (by kernel_rfl) (by kernel_rfl) (by kernel_rfl) ?hQT59 ?hyT59 (by assumption) ?restT59
                                                                                                                                              case hiT59 => simp only [List.size_toArray, List.length_cons, List.length_nil, List.getElem?_toArray, List.getElem?_cons_succ, List.getElem?_cons_zero] <;> rfl
                                                                                                                                              case hQT59 => exact fun _ _ _ h => h
                                                                                                                                              case hyT59 => exact Or.inl ⟨by kernel_rfl, by intro w hSw; (try dsimp only at hSw); go_simp; first | done | with_reducible rfl⟩
                                                                                                                                              case restT59 =>
                                                                                                                                                try simp only [Act.put, List.setIfInBounds_toArray, List.set_cons_zero, List.set_cons_succ]
                                                                                                                                                refine wpAnyH_take (i := 60) (oi := ?oT60) (v := ?vT60) ?hiT60 (by kernel_rfl) (by kernel_rfl) (by kernel_rfl) ?hQT60 ?hyT60 (by assumption) ?restT60
                                                                                                                                                case hiT60 => simp only [List.size_toArray, List.length_cons, List.length_nil, List.getElem?_toArray, List.getElem?_cons_succ, List.getElem?_cons_zero] <;> rfl
                                                                                                                                                case hQT60 => exact fun _ _ _ h => h
                                                                                                                                                case hyT60 => exact Or.inl ⟨by kernel_rfl, by intro w hSw; (try dsimp only at hSw); go_simp; first | done | with_reducible rfl⟩
                                                                                                                                                case restT60 =>
                                                                                                                                                  try simp only [Act.put, List.setIfInBounds_toArray, List.set_cons_zero, List.set_cons_succ]
                                                                                                                                                  refine wpAnyH_take (i := 61) (oi := ?oT61) (v := ?vT61) ?hiT61 (by kernel_rfl) (by kernel_rfl) (by kernel_rfl) ?hQT61 ?hyT61 (by assumption) ?restT61
                                                                                                                                                  case hiT61 => simp only [List.size_toArray, List.length_cons, List.length_nil, List.getElem?_toArray, List.getElem?_cons_succ, List.getElem?_cons_zero] <;> rfl
                                                                                                                                                  case hQT61 => exact fun _ _ _ h => h
                                                                                                                                                  case hyT61 => exact Or.inl ⟨by kernel_rfl, by intro w hSw; (try dsimp only at hSw); go_simp; first | done | with_reducible rfl⟩
                                                                                                                                                  case restT61 =>
                                                                                                                                                    try simp only [Act.put, List.setIfInBounds_toArray, List.set_cons_zero, List.set_cons_succ]
                                                                                                                                                    refine wpAnyH_take (i := 62) (oi := ?oT62) (v := ?vT62) ?hiT62 (by kernel_rfl) (by kernel_rfl) (by kernel_rfl) ?hQT62 ?hyT62 (by assumption) ?restT62
                                                                                                                                                    case hiT62 => simp only [List.size_toArray, List.length_cons, List.length_nil, List.getElem?_toArray, List.getElem?_cons_succ, List.getElem?_cons_zero] <;> rfl
                                                                                                                                                    case hQT62 => exact fun _ _ _ h => h
                                                                                                                                                    case hyT62 => exact Or.inl ⟨by kernel_rfl, by intro w hSw; (try dsimp only at hSw); go_simp; first | done | with_reducible rfl⟩
                                                                                                                                                    case restT62 =>
                                                                                                                                                      try simp only [Act.put, List.setIfInBounds_toArray, List.set_cons_zero, List.set_cons_succ]
                                                                                                                                                      refine wpAnyH_take (i := 63) (oi := ?oT63) (v := ?vT63) ?hiT63 (by kernel_rfl) (by kernel_rfl) (by kernel_rfl) ?hQT63 ?hyT63 (by assumption) ?restT63
                                                                                                                                                      case hiT63 => simp only [List.size_toArray, List.length_cons, List.length_nil, List.getElem?_toArray, List.getElem?_cons_succ, List.getElem?_cons_zero] <;> rfl
                                                                                                                                                      case hQT63 => exact fun _ _ _ h => h
                                                                                                                                                      case hyT63 => exact Or.inl ⟨by kernel_rfl, by intro w hSw; (try dsimp only at hSw); go_simp; first | done | with_reducible rfl⟩
                                                                                                                                                      case restT63 =>
                                                                                                                                                        try simp only [Act.put, List.setIfInBounds_toArray, List.set_cons_zero, List.set_cons_succ]
                                                                                                                                                        refine wpAnyH_ready (rs := [64]) (by kernel_rfl) (by simp) (AllReadyH.cons (o := ?oT64) ?hiT64 (fun K hK => ?stepT64) AllReadyH.nil)
                                                                                                                                                        case hiT64 => simp only [List.size_toArray, List.length_cons, List.length_nil, List.getElem?_toArray, List.getElem?_cons_succ, List.getElem?_cons_zero] <;> rfl
                                                                                                                                                        case stepT64 =>
                                                                                                                                                          go_simp
                                                                                                                                                          (go_at_call 15; with_reducible refine (HAL.out _).mono ?_; rintro e w9 ⟨rfl, hb9⟩; have HBW := Aside0.mk (below_step HBW.out hb9); clear hb9)
                                                                                                                                                          go_wp2_with fail
                                                                                                                                                          refine hK.out _ _ ?hST64 (fun hHeld => ?restT64)
                                                                                                                                                          case hST64 => with_reducible exact ⟨HBW.out, HCells.out _ HBW.out⟩
                                                                                                                                                          case restT64 =>
                                                                                                                                                            clear hK K
                                                                                                                                                            try simp only [Act.put, List.setIfInBounds_toArray, List.set_cons_zero, List.set_cons_succ]
                                                                                                                                                            refine wpAnyH_take (i := 65) (oi := ?oT65) (v := ?vT65) ?hiT65 (by kernel_rfl) (by kernel_rfl) (by kernel_rfl) ?hQT65 ?hyT65 (by assumption) ?restT65
                                                                                                                                                            case hiT65 => simp only [List.size_toArray, List.length_cons, List.length_nil, List.getElem?_toArray, List.getElem?_cons_succ, List.getElem?_cons_zero] <;> rfl
                                                                                                                                                            case hQT65 => exact fun _ _ _ h => h
                                                                                                                                                            case hyT65 => exact Or.inl ⟨by kernel_rfl, by intro w hSw; (try dsimp only at hSw); go_simp; first | done | with_reducible rfl⟩
                                                                                                                                                            case restT65 =>
                                                                                                                                                              try simp only [Act.put, List.setIfInBounds_toArray, List.set_cons_zero, List.set_cons_succ]
                                                                                                                                                              refine wpAnyH_take (i := 66) (oi := ?oT66) (v := ?vT66) ?hiT66 (by kernel_rfl) (by kernel_rfl) (by kernel_rfl) ?hQT66 ?hyT66 (by assumption) ?restT66
                                                                                                                                                              case hiT66 => simp only [List.size_toArray, List.length_cons, List.length_nil, List.getElem?_toArray, List.getElem?_cons_succ, List.getElem?_cons_zero] <;> rfl
                                                                                                                                                              case hQT66 => exact fun _ _ _ h => h
                                                                                                                                                              case hyT66 => exact Or.inl ⟨by kernel_rfl, by intro w hSw; (try dsimp only at hSw); go_simp; first | done | with_reducible rfl⟩
                                                                                                                                                              case restT66 =>
                                                                                                                                                                try simp only [Act.put, List.setIfInBounds_toArray, List.set_cons_zero, List.set_cons_succ]
                                                                                                                                                                refine wpAnyH_done (by kernel_rfl) ?_ _
                                                                                                                                                                go_wp2_with fail
                                                                                                                                                                go_ret
                                                                                                                                                                exact ⟨rfl, below_step HB5.out HBW.out⟩
    · have hz : ¬ ((n : Int) ≤ 60) := by omega
      rw [decide_eq_false hz] at HBD
      clear hz
      go_enter Try.func4, Try.ntmps4
      go_wp2_with fail
      refine HBD.out.mono ?_
      rintro e w1 ⟨rfl, hd⟩
      have HB1 := Aside0.mk hd.below
      clear hd HBD
      go_wp2_with fail
      refine (HAL.out w1).mono ?_
      rintro e w2 ⟨rfl, hb⟩
      have HB2 := Aside0.mk (below_step HB1.out hb)
      clear hb HB1
      go_wp2
      go_ret
      exact ⟨rfl, HB2.out⟩
  · rw [if_neg hall] at h
    cases h
end Go.Proofs.Ythgjieigpfcekaa.QM
