-- Laid by this claim's own program (mprint.py in the repo).
import Derived.Test.YthgjieigpfcekaaQMx0
import Derived.Test.YthgjieigpfcekaaQMx2
import Derived.Test.YthgjieigpfcekaaQMx3
import Derived.Test.YthgjieigpfcekaaQMx4
import Derived.Test.YthgjieigpfcekaaQMx5
namespace Go.Proofs.Ythgjieigpfcekaa.QM
open Go.RowKit Go.Proofs.YthgjieigpfcekaaW.PrintWords Go.Proofs.YthgjieigpfcekaaW.PrintLast Go.Proofs.YthgjieigpfcekaaW.PrintMore
attribute [local go_sem] max2_int min2_int max_two min_two max_three min_three max_four min_four   -- for this text's walks alone
set_option linter.unusedVariables false
set_option linter.unusedSimpArgs false

/-! ### orielref12_Links: function 18 -/
/-- The place behind the last pair that is not greater. -/
def scanK (l : List S34) (x : S34) : Nat → Nat
  | 0 => 0
  | k + 1 => if ltP x (rd_T34 l (k : Int)) = true then scanK l x k else k + 1
theorem scanK_le (l : List S34) (x : S34) : ∀ k, scanK l x k ≤ k
  | 0 => Nat.le_refl _
  | k + 1 => by
    rw [scanK]
    split
    · have := scanK_le l x k
      omega
    · exact Nat.le_refl _
def insR (l : List S34) (x : S34) : List S34 :=
  if x.f0 = x.f1 then l else if 0 < scanK l x l.length ∧ eqP (rd_T34 l ((scanK l x l.length - 1 : Nat) : Int)) x = true then l else l.take (scanK l x l.length) ++ [x] ++ l.drop (scanK l x l.length)
def refLk : List S34 → List S34 → List S34
  | l, [] => l
  | l, y :: r => refLk (insR l ⟨min y.f0 y.f1, max y.f0 y.f1⟩) r
def orielref12_Links.f (k : Nat) (L : List S34) : Option (List S34) := if L.length ≤ 1000000 then some (refLk [] L) else none
theorem orielref12_Links.mono : ∀ a0 k, LeO (orielref12_Links.f k a0) (orielref12_Links.f (k + 1) a0) := fun _ _ => LeO.refl _
theorem insR_len (l : List S34) (x : S34) : (insR l x).length ≤ l.length + 1 := by
  unfold insR
  split
  · omega
  · split
    · omega
    · rw [List.length_append, List.length_append, List.length_take, List.length_drop]
      have := scanK_le l x l.length
      simp only [List.length_cons, List.length_nil]
      omega
def dupB (l : List S34) (x : S34) (k : Nat) : Bool := (x.f0 == x.f1) || (decide (0 < k) && eqP (rd_T34 l ((k - 1 : Nat) : Int)) x)
theorem insR_eq (l : List S34) (x : S34) (k : Nat) (h : scanK l x l.length = k) : insR l x = if dupB l x k = true then l else l.take k ++ [x] ++ l.drop k := by
  unfold insR dupB
  rw [h]
  by_cases h1 : x.f0 = x.f1
  · simp [h1]
  · by_cases h2 : 0 < k ∧ eqP (rd_T34 l ((k - 1 : Nat) : Int)) x = true
    · rw [if_neg h1, if_pos h2, if_pos (by simp [h2.1, h2.2])]
    · rw [if_neg h1, if_neg h2, if_neg (by simp only [Bool.or_eq_true, Bool.and_eq_true, decide_eq_true_eq, beq_iff_eq]; exact fun h => h.elim h1 h2)]
theorem rl_KM {w : World} {base : Nat} {ok : Nat → Prop} {x : S34} {cs : List Value} (h : k34.K w x cs) : k34.M w base ok x cs := by rw [k34_open h]; exact k34_mkM _ _ _ x
theorem rl_info : (Try.prog.info? 34).map (fun i => (i.zero, i.size, i.bytes)) = some (some (.agg #[.int .i64 0, .int .i64 0]), 2, 16) := by kernel_rfl
theorem rl_tok (w : World) (base : Nat) (ok : Nat → Prop) (a b : Int) : k34.M w base ok ⟨a, b⟩ [.int .i64 a, .int .i64 b] := k34_mkM w base ok ⟨a, b⟩
set_option maxHeartbeats 8000000 in
set_option maxRecDepth 100000 in
theorem orielref12_Links.calls (k : Nat) (A0 : Option Addr) (c0 : Nat) (l0 : List S34) (r : List S34) (w : World) (hr0 : Kd.C k34 w A0 l0.length l0) (hc0 : l0.length ≤ c0) (h : orielref12_Links.f k l0 = some r) :
    Calls Try.prog 18 #[.slice A0 l0.length c0] w fun e w' => ∃ v0_ : Value, e = .returned (v0_) ∧ Kd.R k34 34 w' w.heap.size (fun _ => True) v0_ r ∧ Below w.heap.size w w' := by
  have hu34 := Try.underlying34
  have hu22 := Try.underlying22
  unfold orielref12_Links.f at h
  by_cases hok : l0.length ≤ 1000000
  · rw [if_pos hok] at h
    obtain rfl := Option.some.inj h
    clear h
    have HC0 := Aside0.mk hr0
    clear hr0
    obtain ⟨n, hn⟩ : ∃ n, l0.length = n := ⟨_, rfl⟩
    rw [hn] at hok hc0 ⊢
    have HN := Lib.hid hn
    clear hn
    have hmax : n ≤ 9223372036854775807 := by omega
    obtain ⟨RES, hRES⟩ : ∃ RES, refLk [] l0 = RES := ⟨_, rfl⟩
    have HR0 := Lib.hid (show refLk [] (l0.drop 0) = RES from hRES)
    rw [hRES]
    clear hRES
    go_enter Try.func18, Try.ntmps18
    go_wp2
    go_loopg [3, 4, 5, 6, 7] n (fun gg s3 s4 _ _ _ wr => ∃ (j : Nat) (l : List S34), s4 = .int .i64 j ∧ j ≤ n ∧ n - j ≤ gg ∧ l.length ≤ j ∧ Hid (refLk l (l0.drop j) = RES) ∧ Aside0 (Kd.R k34 34 wr w.heap.size (fun _ => True) s3 l) ∧ Aside0 (Below w.heap.size w wr))
    case atStart => exact ⟨0, [], rfl, by omega, by omega, by simp, HR0, ⟨Kd.R_nil _ _ _ _ _⟩, ⟨Below.refl _ _⟩⟩
    case round =>
      clear HR0
      obtain ⟨j, l, rfl, hj, hgj, hll, HR, HO, HB⟩ := hrel
      by_cases hlt : j < n
      · have hltz : (j : Int) < (n : Int) := by omega
        obtain ⟨ad1, ead1, hx0, hx1⟩ := at_T34 (Kd.C_below HC0.out HB.out) (j : Int) (by omega) (by rw [HN.out]; omega)
        rw [Int.toNat_natCast] at hx0 hx1
        have hdr := drop_at l0 j (by rw [HN.out]; exact hlt)
        have hq := HR.out
        rw [hdr, refLk] at hq
        have HQ := Lib.hid hq
        clear hq hdr HR
        generalize rd_T34 l0 (j : Int) = y at hx0 hx1 HQ
        obtain ⟨a, b⟩ := y
        dsimp only at hx0 hx1
        replace HQ : Hid (refLk (insR l ⟨min a b, max a b⟩) (l0.drop (j + 1)) = RES) := HQ
        cases ead1
        obtain ⟨Ao, co, rfl⟩ := Kd.R_slice HO.out
        obtain ⟨m, hm⟩ : ∃ m, l.length = m := ⟨_, rfl⟩
        rw [hm] at HO hll ⊢
        have HM := Lib.hid hm
        clear hm
        have HX0 := Lib.hid hx0
        have HX1 := Lib.hid hx1
        go_wp2_with fail
        go_cut [5] from 14 to 36 (fun s5 wc => ∃ p q : Int, s5 = .pointer (some ⟨wr.heap.size, 0, none⟩) ∧ p = min a b ∧ q = max a b ∧ wc = (wr.alloc (.cells #[.int .i64 p, .int .i64 q] 34)).drew)
        case first =>
          go_region_held3 (fun w' => w'.cell? (ad1.add (j * 2)) = some (.int .i64 a) ∧ w'.cell? ⟨(ad1.add (j * 2)).block, (ad1.add (j * 2)).off + 1, none⟩ = some (.int .i64 b))
            (first | exact ⟨HX0.out, HX1.out⟩ | exact ⟨pw_cell_below (below_alloc (Below.refl _ _) _) HX0.out, pw_cell_below (below_alloc (Below.refl _ _) _) HX1.out⟩)
            (first | fail)
          all_goals (go_wp2_with fail)
          all_goals
            go_meet
            case rel => exact ⟨_, _, rfl, by first | omega | (split <;> omega), by first | omega | (split <;> omega), rfl⟩
        case rest =>
          obtain ⟨p, q, rfl, hp, hq, rfl⟩ := hcut
          rw [← hp, ← hq] at HQ
          clear hp hq
          have hblk : ((wr.alloc (.cells #[.int .i64 p, .int .i64 q] 34)).drew).heap[wr.heap.size]? = some (.cells #[.int .i64 p, .int .i64 q] 34 (0, 0)) := blk_new wr _
          obtain ⟨W3, hW3⟩ : ∃ W3, (wr.alloc (.cells #[.int .i64 p, .int .i64 q] 34)).drew = W3 := ⟨_, rfl⟩
          have HB3 := Aside0.mk (show Below w.heap.size w W3 by rw [← hW3]; exact below_drew (below_alloc HB.out _))
          have HO3 := Aside0.mk (show Kd.R k34 34 W3 w.heap.size (fun _ => True) (.slice Ao m co) l by rw [← hW3]; exact Kd.R_drew (Kd.R_alloc HO.out _))
          rw [hW3] at hblk ⊢
          have y0 : W3.cell? ⟨wr.heap.size, 0, none⟩ = some (.int .i64 p) := by unfold World.cell?; rw [hblk]; rfl
          have y1 : W3.cell? ⟨wr.heap.size, 1, none⟩ = some (.int .i64 q) := by unfold World.cell?; rw [hblk]; rfl
          clear hW3 HO HB HX0 HX1 hblk
          have Y0 := Lib.hid y0
          have Y1 := Lib.hid y1
          clear y0 y1
          have HC3 := Aside0.mk (Kd.R_reads' HO3.out).2.2
          have HSK0 := Lib.hid (show scanK l ⟨p, q⟩ m = scanK l ⟨p, q⟩ m from rfl)
          obtain ⟨kk, hkk⟩ : ∃ kk, scanK l ⟨p, q⟩ m = kk := ⟨_, rfl⟩
          have hkm : kk ≤ m := by rw [← hkk]; exact scanK_le _ _ _
          have HKK := Lib.hid hkk
          clear hkk HSK0
          go_upto_block 2 with fail
          go_cut [6] from 39 to 75 (fun s6 wc => s6 = .int .i64 kk ∧ Aside0 (Drawn0 W3 wc))
          case first =>
            go_wp2_with fail
            go_loopg [6] m (fun gg v6 wz => ∃ i : Nat, v6 = .int .i64 i ∧ i ≤ m ∧ i ≤ gg ∧ Hid (scanK l ⟨p, q⟩ i = kk) ∧ Aside0 (Drawn0 W3 wz))
            case atStart => exact ⟨m, by first | rfl | go_num, Nat.le_refl _, Nat.le_refl _, HKK, ⟨Drawn0.refl _⟩⟩
            case round =>
              obtain ⟨i, rfl, hi, hgi, HS, HD⟩ := hrel
              have q0 := pw_cell_below HD.out.below Y0.out
              have q1 := pw_cell_below HD.out.below Y1.out
              rcases i with _ | i
              · have hz : kk = 0 := HS.out.symm
                subst hz
                go_wp2_with fail
                go_quiet (fail)
                go_wp2_with fail
                go_meet
                case rel => exact ⟨rfl, ⟨HD.out.step _⟩⟩
              · have hpos : (0 : Int) < ((i + 1 : Nat) : Int) := by omega
                have hdec : ((i + 1 : Nat) : Int) - 1 = (i : Int) := by omega
                have hil : i < m := by omega
                obtain ⟨adx, eadx, hx0, hx1⟩ := at_T34 (Kd.C_below HC3.out HD.out.below) (i : Int) (by omega) (by rw [HM.out]; omega)
                rw [Int.toNat_natCast] at hx0 hx1
                have hs := HS.out
                rw [scanK] at hs
                have HS2 := Lib.hid hs
                clear hs HS
                generalize rd_T34 l (i : Int) = x at hx0 hx1 HS2
                obtain ⟨c, d⟩ := x
                dsimp only at hx0 hx1
                cases eadx
                by_cases h1 : p < c
                · have HS3 := Lib.hid (show scanK l ⟨p, q⟩ i = kk by have := HS2.out; rw [if_pos (by simp [ltP, h1])] at this; exact this)
                  clear HS2
                  go_wp2_with fail
                  go_quiet (fail)
                  go_wp2_with fail
                  go_roundg i
                  case measure => omega
                  case rel => exact ⟨i, by go_num, by omega, Nat.le_refl _, HS3, ⟨HD.out.step _⟩⟩
                · by_cases h2 : c = p
                  · subst h2
                    by_cases h3 : q < d
                    · have HS3 := Lib.hid (show scanK l ⟨c, q⟩ i = kk by have := HS2.out; rw [if_pos (by simp [ltP, h3])] at this; exact this)
                      clear HS2
                      go_wp2_with fail
                      go_quiet (fail)
                      go_wp2_with fail
                      go_roundg i
                      case measure => omega
                      case rel => exact ⟨i, by go_num, by omega, Nat.le_refl _, HS3, ⟨HD.out.step _⟩⟩
                    · have HS3 : i + 1 = kk := by have := HS2.out; rw [if_neg (by simp [ltP]; omega)] at this; exact this
                      clear HS2
                      subst HS3
                      go_wp2_with fail
                      go_quiet (fail)
                      go_wp2_with fail
                      go_meet
                      case rel => exact ⟨rfl, ⟨HD.out.step _⟩⟩
                  · have HS3 := Lib.hid (show i + 1 = kk by have := HS2.out; rw [if_neg (by simp [ltP]; omega)] at this; exact this)
                    have d1 : decide (c = p) = false := decide_eq_false h2
                    have bcp : (c == p) = false := beq_eq_false_iff_ne.2 h2
                    have d2 : decide (p < c) = false := decide_eq_false h1
                    clear HS2 h2
                    go_wp2_with fail
                    have hw : IntKind.i64.wrap (i : Int) = (i : Int) := Go.IntWalk.i64_in _ ⟨by omega, by omega⟩
                    clear hpos hdec hltz hok hc0 hmax hgj hgi hlt hj hkm hi hll
                    go_quiet (fail)
                    clear hw
                    go_wp2_with fail
                    go_meet
                    case rel => exact ⟨by rw [← HS3.out]; first | rfl | go_num, ⟨HD.out.step _⟩⟩
          case rest =>
            obtain ⟨rfl, HD⟩ := hcut
            obtain ⟨D, hD⟩ : ∃ D, dupB l ⟨p, q⟩ kk = D := ⟨_, rfl⟩
            have HINS := Lib.hid (show insR l ⟨p, q⟩ = if D = true then l else l.take kk ++ [⟨p, q⟩] ++ l.drop kk by rw [← hD]; exact insR_eq l ⟨p, q⟩ kk (by rw [HM.out]; exact HKK.out))
            have HD2 := Lib.hid hD
            clear hD
            have q0 := pw_cell_below HD.out.below Y0.out
            have q1 := pw_cell_below HD.out.below Y1.out
            go_upto_region 9 with fail
            go_cut [93] from 76 to 92 (fun s93 wz => s93 = .bool D ∧ Aside0 (Drawn0 W3 wz))
            case first =>
              by_cases hpq : p = q
              · have bpq : (p == q) = true := beq_iff_eq.2 hpq
                have HD3 := Lib.hid (show true = D by rw [← HD2.out]; unfold dupB; dsimp only; rw [bpq]; rfl)
                clear hpq
                go_quiet (fail)
                go_wp2_with fail
                go_meet
                case rel => exact ⟨by rw [← HD3.out], ⟨HD.out.step _⟩⟩
              · have bpq : (p == q) = false := beq_eq_false_iff_ne.2 hpq
                rcases kk with _ | i
                · have HD3 := Lib.hid (show false = D by rw [← HD2.out]; unfold dupB; dsimp only; rw [bpq]; rfl)
                  clear hpq
                  go_quiet (fail)
                  go_wp2_with fail
                  go_meet
                  case rel => exact ⟨by rw [← HD3.out], ⟨HD.out.step _⟩⟩
                · have hdec : ((i + 1 : Nat) : Int) - 1 = (i : Int) := by omega
                  have hpos : (0 : Int) < ((i + 1 : Nat) : Int) := by omega
                  have hil : i < m := by omega
                  obtain ⟨adx, eadx, hx0, hx1⟩ := at_T34 (Kd.C_below HC3.out HD.out.below) (i : Int) (by omega) (by rw [HM.out]; omega)
                  rw [Int.toNat_natCast] at hx0 hx1
                  have hdd : D = eqP (rd_T34 l (i : Int)) ⟨p, q⟩ := by rw [← HD2.out]; unfold dupB; dsimp only; rw [bpq]; simp
                  generalize rd_T34 l (i : Int) = x at hx0 hx1 hdd
                  obtain ⟨c, d⟩ := x
                  dsimp only at hx0 hx1
                  have HDD := Lib.hid hdd
                  clear hdd hpq
                  cases eadx
                  by_cases h1 : c = p
                  · subst h1
                    by_cases h2 : d = q
                    · subst h2
                      have HD3 := Lib.hid (show true = D by rw [HDD.out]; simp [eqP])
                      go_quiet (fail)
                      go_wp2_with fail
                      go_meet
                      case rel => exact ⟨by rw [← HD3.out], ⟨HD.out.step _⟩⟩
                    · have be2 : (d == q) = false := beq_eq_false_iff_ne.2 h2
                      have HD3 := Lib.hid (show false = D by rw [HDD.out]; simp [eqP, h2])
                      clear h2
                      go_quiet (fail)
                      go_wp2_with fail
                      go_meet
                      case rel => exact ⟨by rw [← HD3.out], ⟨HD.out.step _⟩⟩
                  · have be1 : (c == p) = false := beq_eq_false_iff_ne.2 h1
                    have HD3 := Lib.hid (show false = D by rw [HDD.out]; simp [eqP, h1])
                    clear h1
                    go_quiet (fail)
                    go_wp2_with fail
                    go_meet
                    case rel => exact ⟨by rw [← HD3.out], ⟨HD.out.step _⟩⟩
            case rest =>
              clear HD q0 q1
              obtain ⟨rfl, HD⟩ := hcut
              have HBz := Aside0.mk (below_step HB3.out HD.out.below)
              have HOz := Aside0.mk (Kd.R_below HO3.out HD.out.below)
              cases D with
              | true =>
                have HX := Lib.hid (show refLk l (l0.drop (j + 1)) = RES by have h1 := HINS.out; rw [if_pos rfl] at h1; have h2 := HQ.out; rw [h1] at h2; exact h2)
                clear HINS HQ HD2
                go_wp2
                go_roundg (n - (j + 1))
                case measure => omega
                case rel => exact ⟨j + 1, l, by go_num, by omega, Nat.le_refl _, by rw [HM.out]; omega, HX, HOz, HBz⟩
              | false =>
                have HX := Lib.hid (show refLk (l.take kk ++ [⟨p, q⟩] ++ l.drop kk) (l0.drop (j + 1)) = RES by have h1 := HINS.out; rw [if_neg (by simp)] at h1; have h2 := HQ.out; rw [h1] at h2; exact h2)
                clear HINS HQ HD2
                obtain ⟨ti, hti, hts⟩ := pr_tinfo
                have hmc := (Kd.R_reads' HO3.out).2.1
                have hto := cut_to (P := Try.prog) 22 34 .i64 hu22 hti Ao m co (kk : Int) (by omega) (by omega) hmc
                have hfrom := cut_from (P := Try.prog) 22 34 .i64 hu22 hti 2 hts Ao m co (kk : Int) (by omega) (by omega)
                rw [Int.toNat_natCast] at hto hfrom
                have HCA := Aside0.mk (show Kd.C k34 W3 Ao (l.take kk).length (l.take kk) from Kd.C_take HC3.out (by rw [HM.out]; exact hkm))
                have HCB := Aside0.mk (show Kd.C k34 W3 (if co = kk then Ao else Ao.map (·.add (kk * 2))) (l.drop kk).length (l.drop kk) from Kd.C_drop (c := co) HC3.out (by rw [HM.out]; exact hkm) (by rw [HM.out]; exact hmc))
                rw [show (l.take kk).length = kk by rw [List.length_take, HM.out]; omega] at HCA
                rw [show (l.drop kk).length = m - kk by rw [List.length_drop, HM.out]] at HCB
                clear hti hts
                have hlen : l.length = m := HM.out
                have HLK := Lib.hid (show (l.take kk).length = kk by rw [List.length_take, HM.out]; omega)
                have HLD := Lib.hid (show (l.drop kk).length = m - kk by rw [List.length_drop, HM.out])
                have HCAz := Aside0.mk (Kd.C_below HCA.out HD.out.below)
                have HCBz := Aside0.mk (Kd.C_below HCB.out HD.out.below)
                have z0 := pw_cell_below HD.out.below Y0.out
                have z1 := pw_cell_below HD.out.below Y1.out
                have Z0 := Lib.hid z0
                have Z1 := Lib.hid z1
                clear z0 z1 HCA HCB hlen
                go_wp2_with (first
                  | ((with_reducible refine gate_dst (N := 94) rfl ?_); refine Kd.R_lit k34 _ 34 ?hg (N := 94) ?hd (xs := ([] : List S34)) (inner := []) (ok := fun _ => True) (okp := fun _ => True) ?hr ?hp (fun _ hk => hk) trivial (Below.refl _ _) (Nat.le_refl _) (by simp) ?_; (case hd => rfl); (case hg => rfl); (case hr => first | (go_simp; done) | (go_simp; rfl)); (case hp => exact (Reps.none _ _)); intro v94 w5 ho hb hg_ hnew_; clear hg_ hnew_; have HL := Aside0.mk ho; have HB5 := Aside0.mk hb; clear ho hb)
                  | ((with_reducible refine gate_dst (N := 98) rfl ?_); refine Kd.R_append_rows k34 (w0 := wc) wc.heap.size rfl (.tmp 94) (.tmp 97) 22 34 (.agg #[.int .i64 0, .int .i64 0]) 16 rfl Try.underlying22 rl_info rfl (by decide) (by decide) v94 [] (l.take kk) _ _ _ (fun _ => True) (fun _ => False) rfl rfl HL.out (Kd.C_below HCAz.out HB5.out) (fun _ _ h => rl_KM h) (fun _ h => h.elim) (fun _ _ => trivial) HB5.out HB5.out.size ?aL ?_; (case aL => simp only [List.length_nil]; omega); intro v98 w6 ho hb _ _; rw [List.nil_append] at ho; have HL6 := Aside0.mk ho; have HB6 := Aside0.mk hb; have z0 := pw_cell_below hb Z0.out; have z1 := pw_cell_below hb Z1.out; clear ho hb HL HB5)
                  | ((with_reducible refine gate_dst (N := 102) rfl ?_); refine Kd.R_append k34 (w0 := wc) wc.heap.size rfl _ _ 22 34 (.agg #[.int .i64 0, .int .i64 0]) 16 rfl Try.underlying22 rl_info rfl (by decide) (by decide) v98 (l.take kk) ⟨p, q⟩ [.int .i64 p, .int .i64 q] (fun _ => True) (fun _ => False) rfl rfl (rl_tok _ _ _ _ _) (fun _ h_ => h_.elim) (fun _ _ => trivial) HL6.out HB6.out HB6.out.size ?aL ?_; (case aL => rw [HLK.out]; omega); intro v102 w7 ho hb _ _; have HL7 := Aside0.mk ho; have HB7 := Aside0.mk hb; clear ho hb HL6 HB6 z0 z1)
                  | ((with_reducible refine gate_dst (N := 107) rfl ?_); refine Kd.R_append_rows k34 (w0 := wc) wc.heap.size rfl (.tmp 103) (.tmp 106) 22 34 (.agg #[.int .i64 0, .int .i64 0]) 16 rfl Try.underlying22 rl_info rfl (by decide) (by decide) v102 (l.take kk ++ [⟨p, q⟩]) (l.drop kk) _ _ _ (fun _ => True) (fun _ => False) rfl rfl HL7.out (Kd.C_below HCBz.out HB7.out) (fun _ _ h => rl_KM h) (fun _ h => h.elim) (fun _ _ => trivial) HB7.out HB7.out.size ?aL ?_; (case aL => rw [List.length_append, HLK.out]; simp only [List.length_cons, List.length_nil]; omega); intro v107 w8 ho hb _ _; have HO8 := Aside0.mk (Kd.R_lower ho HBz.out.size); have HB8 := Aside0.mk (below_step HBz.out hb); clear ho hb HL7 HB7))
                all_goals
                  go_roundg (n - (j + 1))
                  case measure => omega
                  case rel => exact ⟨j + 1, l.take kk ++ [⟨p, q⟩] ++ l.drop kk, by go_num, by omega, Nat.le_refl _, by rw [List.length_append, List.length_append, HLK.out, HLD.out]; simp only [List.length_cons, List.length_nil]; omega, HX, HO8, HB8⟩
      · have hltz : ¬ (j : Int) < (n : Int) := by omega
        obtain rfl : j = n := by omega
        have hr := HR.out
        rw [List.drop_of_length_le (by rw [HN.out]; exact Nat.le_refl _)] at hr
        replace hr : l = RES := hr
        subst hr
        go_wp2
        go_ret
        exact ⟨_, rfl, HO.out, HB.out⟩
  · rw [if_neg hok] at h
    cases h



/-! ### orielref12_Class: function 20 -/
def minStep (n : Int) (T : List Int) (p : S34) : List Int :=
  if inB p.f0 n && inB p.f1 n then (T.set p.f0.toNat (min (rd T p.f0) (rd T p.f1))).set p.f1.toNat (min (rd T p.f0) (rd T p.f1)) else T
def minRound (n : Int) : List Int → List S34 → List Int
  | T, [] => T
  | T, p :: r => minRound n (minStep n T p) r
def minRounds (n : Int) (L : List S34) : Nat → List Int → List Int
  | 0, T => T
  | k + 1, T => minRounds n L k (minRound n T L)
def orielref12_Class.f (k : Nat) (n : Int) (L : List S34) : Option (List Int) := if n ≤ 1000000 then some (minRounds n L (n + 1).toNat (idL n.toNat)) else none
theorem orielref12_Class.mono : ∀ a0 a1 k, LeO (orielref12_Class.f k a0 a1) (orielref12_Class.f (k + 1) a0 a1) := fun _ _ _ => LeO.refl _
theorem minStep_len (n : Int) (T : List Int) (p : S34) : (minStep n T p).length = T.length := by
  unfold minStep
  split
  · rw [List.length_set, List.length_set]
  · rfl
theorem minStepF (n : Int) (T : List Int) (p : S34) (h : inB p.f0 n = false ∨ inB p.f1 n = false) : minStep n T p = T := by
  unfold minStep
  rw [if_neg (by rcases h with h | h <;> simp [h])]
theorem minStepT (n : Int) (T : List Int) (p : S34) (h0 : inB p.f0 n = true) (h1 : inB p.f1 n = true) : minStep n T p = (T.set p.f0.toNat (min (rd T p.f0) (rd T p.f1))).set p.f1.toNat (min (rd T p.f0) (rd T p.f1)) := by
  unfold minStep
  rw [h0, h1]
  rfl
set_option maxHeartbeats 8000000 in
set_option maxRecDepth 100000 in
theorem orielref12_Class.calls (k : Nat) (a0 : Int) (A1 : Option Addr) (c1 : Nat) (l1 : List S34) (r : List Int) (w : World) (hr1 : Kd.C k34 w A1 l1.length l1) (hc1 : l1.length ≤ c1) (h : orielref12_Class.f k a0 l1 = some r) :
    Calls Try.prog 20 #[.int .i64 a0, .slice A1 l1.length c1] w fun e w' => ∃ v0_ : Value, e = .returned (v0_) ∧ Kd.R (Kd.int .i64) 3 w' w.heap.size (fun _ => True) v0_ r ∧ Below w.heap.size w w' := by
  have hu24 := Try.underlying24
  have hu34 := Try.underlying34
  have hu22 := Try.underlying22
  unfold orielref12_Class.f at h
  have HC := Aside0.mk hr1
  have hmx := Kd.C_max hr1
  clear hr1
  by_cases hn : a0 ≤ 1000000
  · rw [if_pos hn] at h
    obtain rfl := Option.some.inj h
    clear h
    obtain ⟨m, hm⟩ : ∃ m : Nat, a0.toNat = m := ⟨_, rfl⟩
    obtain ⟨nL, hnL⟩ : ∃ nL, l1.length = nL := ⟨_, rfl⟩
    rw [hnL] at hmx hc1 ⊢
    have HNL := Lib.hid hnL
    obtain ⟨NR, hNR⟩ : ∃ NR : Nat, (a0 + 1).toNat = NR := ⟨_, rfl⟩
    rw [hm, hNR]
    have hmle : m ≤ 1000000 := by omega
    obtain ⟨RES, hRES⟩ : ∃ RES, minRounds a0 l1 NR (idL m) = RES := ⟨_, rfl⟩
    rw [hRES]
    have HR0 := Lib.hid hRES
    clear hRES hnL
    go_enter Try.func20, Try.ntmps20
    go_wp2
    go_loopg [5, 6] m (fun gg s5 s6 wr => ∃ i : Nat, s6 = .int .i64 i ∧ i ≤ m ∧ m - i ≤ gg ∧ Aside0 (Kd.R (Kd.int .i64) 3 wr w.heap.size (fun _ => True) s5 (idL i)) ∧ Aside0 (Below w.heap.size w wr))
    case atStart => exact ⟨0, rfl, by omega, by omega, ⟨Kd.R_nil _ _ _ _ _⟩, ⟨Below.refl _ _⟩⟩
    case round =>
      obtain ⟨i, rfl, hi, hgi, HO, HB⟩ := hrel
      by_cases hlt : i < m
      · have hltz : (i : Int) < a0 := by omega
        have hll : (idL i).length = i := idL_len i
        have HS := Lib.hid (idL_succ i)
        obtain ⟨l, hl⟩ : ∃ l, idL i = l := ⟨_, rfl⟩
        rw [hl] at HO hll HS
        clear hl
        go_wp2_with (at_builtin; refine Kd.R_append (Kd.int .i64) (w0 := w) w.heap.size rfl _ _ 24 3 (.int .i64 0) 8 rfl Try.underlying24 where_info rfl (by decide) (by decide) u5 l (i : Int) [.int .i64 i] (fun _ => True) (fun _ => False) rfl rfl (where_tok _ _ _ _) (fun _ h_ => h_.elim) (fun _ _ => trivial) HO.out HB.out HB.out.size ?hl ?hk)
        case hl => omega
        case hk =>
          intro v1 w3 ho hb _ _
          have HO3 := Aside0.mk ho
          have HB3 := Aside0.mk hb
          clear ho hb
          go_wp2
          go_roundg (m - (i + 1))
          case measure => omega
          case rel => exact ⟨i + 1, by go_num, by omega, Nat.le_refl _, ⟨by rw [HS.out]; exact HO3.out⟩, HB3⟩
      · have hltz : ¬ (i : Int) < a0 := by omega
        obtain rfl : i = m := by omega
        obtain ⟨A5, c5, rfl⟩ := Kd.R_slice HO.out
        rw [idL_len] at HO ⊢
        go_wp2
        generalize wr = W5 at *
        go_loopg [7, 8, 9, 10, 11] NR (fun gg s7 _ _ _ _ wr => ∃ (q : Nat) (T : List Int), s7 = .int .i64 q ∧ q ≤ NR ∧ NR - q ≤ gg ∧ Hid (T.length = i) ∧ Hid (minRounds a0 l1 (NR - q) T = RES) ∧ Aside0 (Kd.R (Kd.int .i64) 3 wr w.heap.size (fun _ => True) (.slice A5 i c5) T) ∧ Aside0 (Below w.heap.size w wr))
        case atStart => exact ⟨0, idL i, rfl, by omega, by omega, Lib.hid (idL_len i), HR0, HO, HB⟩
        case round =>
          clear HR0 HO HB
          obtain ⟨q, T, rfl, hq, hgq, HT, HR, HO, HB⟩ := hrel
          by_cases hltq : q < NR
          · have hltz : (q : Int) ≤ a0 := by omega
            have hr := HR.out
            rw [show NR - q = (NR - (q + 1)) + 1 by omega, minRounds] at hr
            obtain ⟨T1, hT1⟩ : ∃ T1, minRound a0 T l1 = T1 := ⟨_, rfl⟩
            rw [hT1] at hr
            have HR2 := Lib.hid hr
            have HP0 := Lib.hid (show minRound a0 T (l1.drop 0) = T1 from hT1)
            clear hr HR hT1
            go_wp2
            generalize wr = W6 at *
            go_loopg [8, 9, 10, 11] nL (fun gg s8 _ _ _ wr => ∃ (j : Nat) (T : List Int), s8 = .int .i64 j ∧ j ≤ nL ∧ nL - j ≤ gg ∧ Hid (T.length = i) ∧ Hid (minRound a0 T (l1.drop j) = T1) ∧ Aside0 (Kd.R (Kd.int .i64) 3 wr w.heap.size (fun _ => True) (.slice A5 i c5) T) ∧ Aside0 (Below w.heap.size w wr))
            case atStart => exact ⟨0, T, rfl, by omega, by omega, HT, HP0, HO, HB⟩
            case round =>
              clear HT HP0 HO HB
              obtain ⟨j, T, rfl, hj, hgj, HT, HP, HO, HB⟩ := hrel
              by_cases hlt : j < nL
              · have hltz : (j : Int) < (nL : Int) := by omega
                obtain ⟨ad1, ead1, hx0, hx1⟩ := at_T34 (Kd.C_below HC.out HB.out) (j : Int) (by omega) (by rw [HNL.out]; omega)
                rw [Int.toNat_natCast] at hx0 hx1
                have hdr := drop_at l1 j (by rw [HNL.out]; exact hlt)
                have hq := HP.out
                rw [hdr, minRound] at hq
                have HQ := Lib.hid hq
                clear hq hdr HP
                generalize rd_T34 l1 (j : Int) = x at hx0 hx1 HQ
                obtain ⟨a, b⟩ := x
                dsimp only at hx0 hx1
                cases ead1
                have HX0 := Lib.hid hx0
                have HX1 := Lib.hid hx1
                clear hx0 hx1
                go_wp2_with fail
                go_region_held3 (fun w' => w'.cell? (ad1.add (j * 2)) = some (.int .i64 a) ∧ w'.cell? ⟨(ad1.add (j * 2)).block, (ad1.add (j * 2)).off + 1, none⟩ = some (.int .i64 b))
                  (exact ⟨HX0.out, HX1.out⟩)
                  (first | fail)
                clear HX0 HX1
                have HO1 := Aside0.mk (Kd.R_drew HO.out)
                have HB1 := Aside0.mk (below_drew HB.out)
                clear HO HB
                obtain ⟨W1, hW1⟩ : ∃ W1, wr.drew = W1 := ⟨_, rfl⟩
                rw [hW1] at HO1 HB1 ⊢
                clear hW1
                by_cases ha0 : a < 0
                · have HP2 := Lib.hid (show minRound a0 T (l1.drop (j + 1)) = T1 by have := HQ.out; rw [minStepF a0 T ⟨a, b⟩ (.inl (by simp [inB]; omega))] at this; exact this)
                  clear HQ
                  go_wp2
                  go_roundg (nL - (j + 1))
                  case measure => omega
                  case rel => exact ⟨j + 1, T, by go_num, by omega, Nat.le_refl _, HT, HP2, HO1, HB1⟩
                by_cases hb0 : b < 0
                · have HP2 := Lib.hid (show minRound a0 T (l1.drop (j + 1)) = T1 by have := HQ.out; rw [minStepF a0 T ⟨a, b⟩ (.inr (by simp [inB]; omega))] at this; exact this)
                  clear HQ
                  go_wp2
                  go_roundg (nL - (j + 1))
                  case measure => omega
                  case rel => exact ⟨j + 1, T, by go_num, by omega, Nat.le_refl _, HT, HP2, HO1, HB1⟩
                by_cases ha1 : a0 ≤ a
                · have HP2 := Lib.hid (show minRound a0 T (l1.drop (j + 1)) = T1 by have := HQ.out; rw [minStepF a0 T ⟨a, b⟩ (.inl (by simp [inB]; omega))] at this; exact this)
                  clear HQ
                  go_wp2
                  go_roundg (nL - (j + 1))
                  case measure => omega
                  case rel => exact ⟨j + 1, T, by go_num, by omega, Nat.le_refl _, HT, HP2, HO1, HB1⟩
                by_cases hb1 : a0 ≤ b
                · have HP2 := Lib.hid (show minRound a0 T (l1.drop (j + 1)) = T1 by have := HQ.out; rw [minStepF a0 T ⟨a, b⟩ (.inr (by simp [inB]; omega))] at this; exact this)
                  clear HQ
                  go_wp2
                  go_roundg (nL - (j + 1))
                  case measure => omega
                  case rel => exact ⟨j + 1, T, by go_num, by omega, Nat.le_refl _, HT, HP2, HO1, HB1⟩
                have hai : a < (i : Int) := by omega
                have hbi : b < (i : Int) := by omega
                have hq := HQ.out
                rw [minStepT a0 T ⟨a, b⟩ (by simp [inB]; omega) (by simp [inB]; omega)] at hq
                dsimp only at hq
                obtain ⟨g, cap, hv, hbg, -, -⟩ := Kd.R_form HO1.out (by rw [HT.out]; omega)
                rw [HT.out] at hv
                obtain ⟨rfl, rfl⟩ : A5 = some ⟨g, 0, none⟩ ∧ c5 = cap := by injection hv with h1 _ h3; exact ⟨h1, h3⟩
                clear hv
                obtain ⟨hca, hfa⟩ := Kd.R_celln (0 : Int) HO1.out a (by omega) (by first | omega | (rw [HT.out]; omega))
                obtain ⟨hcb, hfb⟩ := Kd.R_celln (0 : Int) HO1.out b (by omega) (by first | omega | (rw [HT.out]; omega))
                replace hca : W1.cell? ⟨g, a.toNat, none⟩ = some (.int .i64 (rd T a)) := hca
                replace hcb : W1.cell? ⟨g, b.toNat, none⟩ = some (.int .i64 (rd T b)) := hcb
                generalize rd T a = x at *
                generalize rd T b = y at *
                have HCA := Lib.hid hca
                have HCB := Lib.hid hcb
                have HFA := Lib.hid hfa
                have HFB := Lib.hid hfb
                have HQ2 := Lib.hid hq
                clear hq HQ hca hcb hfa hfb
                have hz0 : (0 : Int) ≤ a := by omega
                have hz1 : (0 : Int) ≤ b := by omega
                go_upto_region 14 with fail
                go_cut [11] from 58 to 66 (fun s11 wc => ∃ m : Int, s11 = .int .i64 m ∧ m = min x y ∧ wc = W1.drew)
                case first =>
                  go_region_held3 (fun w' => w'.cell? ⟨g, a.toNat, none⟩ = some (.int .i64 x) ∧ w'.cell? ⟨g, b.toNat, none⟩ = some (.int .i64 y))
                    (exact ⟨HCA.out, HCB.out⟩)
                    (first | fail)
                  all_goals (go_wp2_with fail)
                  all_goals
                    go_meet
                    case rel => exact ⟨_, rfl, by first | omega | (split <;> omega), rfl⟩
                case rest =>
                  obtain ⟨m, rfl, hm, rfl⟩ := hcut
                  rw [← hm] at HQ2
                  have hca : W1.drew.cell? ⟨g, a.toNat, none⟩ = some (.int .i64 x) := HCA.out
                  have hfa : W1.drew.frozen? ⟨g, a.toNat, none⟩ = false := HFA.out
                  have HO3 := Aside0.mk (Kd.R_drew (Kd.R_putg HO1.out a m).1)
                  have HB3 := Aside0.mk (below_drew (HB1.out.setCell (p := ⟨g, a.toNat, none⟩) hbg (.int .i64 m)))
                  clear HCA HCB HFA HFB hm HO1 HB1
                  go_upto_region 16 with fail
                  clear hca hfa
                  obtain ⟨W3, hW3⟩ : ∃ W3, (W1.setCell ⟨g, a.toNat, none⟩ (.int .i64 m)).drew = W3 := ⟨_, rfl⟩
                  rw [hW3] at HO3 HB3 ⊢
                  clear hW3
                  have hTl : (T.set a.toNat m).length = i := by rw [List.length_set]; exact HT.out
                  obtain ⟨hcb, hfb⟩ := Kd.R_celln (0 : Int) HO3.out b (by omega) (by first | omega | (rw [hTl]; omega))
                  obtain ⟨y2, hcb2⟩ : ∃ y2, W3.cell? ⟨g, b.toNat, none⟩ = some (.int .i64 y2) := ⟨_, hcb⟩
                  have HO4 := Aside0.mk (Kd.R_putg HO3.out b m).1
                  have HB4 := Aside0.mk (HB3.out.setCell (p := ⟨g, b.toNat, none⟩) hbg (.int .i64 m))
                  have HT4 := Lib.hid (show ((T.set a.toNat m).set b.toNat m).length = i by rw [List.length_set]; exact hTl)
                  clear hcb HO3 HB3 hTl HT
                  go_wp2
                  go_roundg (nL - (j + 1))
                  case measure => omega
                  case rel => exact ⟨j + 1, (T.set a.toNat m).set b.toNat m, by go_num, by omega, Nat.le_refl _, HT4, HQ2, HO4, HB4⟩
              · have hltz : ¬ (j : Int) < (nL : Int) := by omega
                obtain rfl : j = nL := by omega
                have hp := HP.out
                rw [List.drop_of_length_le (by rw [HNL.out]; exact Nat.le_refl _)] at hp
                replace hp : T = T1 := hp
                subst hp
                go_wp2
                go_roundg (NR - (q + 1))
                case measure => omega
                case rel => exact ⟨q + 1, T, by go_num, by omega, Nat.le_refl _, HT, HR2, HO, HB⟩
          · have hltz : ¬ (q : Int) ≤ a0 := by omega
            have hr := HR.out
            rw [show NR - q = 0 by omega] at hr
            replace hr : T = RES := hr
            subst hr
            go_wp2
            go_ret
            exact ⟨_, rfl, HO.out, HB.out⟩
  · rw [if_neg hn] at h
    cases h



/-! ### orielref12_In: function 34 -/
def orielref12_In.l0 : Nat → List Int → Int → Int → Option (Bool)
  | 0, _, _, _ => none
  | k + 1, x0, x1, x5 => if x5 < (x0.length : Int) then (if 0 ≤ x5 then (if (rd x0 x5) = x1 then (some true) else (orielref12_In.l0 k x0 x1 (wrap64 (x5 + 1)))) else (none)) else (some false)
def orielref12_In.f (k : Nat) (l0 : List Int) (a1 : Int) : Option (Bool) := orielref12_In.l0 k l0 a1 0
theorem orielref12_In.mono_l : ∀ k, (∀ y0 y1 y2, LeO (orielref12_In.l0 k y0 y1 y2) (orielref12_In.l0 (k + 1) y0 y1 y2))
  | 0 => fun _ _ _ r h => by simp [orielref12_In.l0] at h
  | k + 1 => by
    have ih0 := orielref12_In.mono_l k
    · intro y0 y1 y2
      unfold orielref12_In.l0
      repeat' first
      | (with_reducible exact ih0 _ _ _)
      | (with_reducible exact LeO.refl _)
      | (with_reducible exact LeO.none _)
      | (with_reducible refine LeO.ite ?_ ?_)
      | (with_reducible refine LeO.bind ?_ (fun _ => ?_))
      | exact ih0 _ _ _
      | exact LeO.none _
      | refine LeO.ite ?_ ?_
      | refine LeO.bind ?_ (fun _ => ?_)
theorem orielref12_In.mono : ∀ a0 a1 k, LeO (orielref12_In.f k a0 a1) (orielref12_In.f (k + 1) a0 a1) := by
  intro a0 a1 k
  have ih0 := orielref12_In.mono_l k
  unfold orielref12_In.f
  repeat' first
      | (with_reducible exact ih0 _ _ _)
      | (with_reducible exact LeO.refl _)
      | (with_reducible exact LeO.none _)
      | (with_reducible refine LeO.ite ?_ ?_)
      | (with_reducible refine LeO.bind ?_ (fun _ => ?_))
      | exact ih0 _ _ _
      | exact LeO.none _
      | refine LeO.ite ?_ ?_
      | refine LeO.bind ?_ (fun _ => ?_)
set_option maxHeartbeats 8000000 in
set_option maxRecDepth 100000 in
theorem orielref12_In.calls (k : Nat) (A0 : Option Addr) (c0 : Nat) (l0 : List Int) (a1 : Int) (r : Bool) (w : World) (hr0 : Kd.C (Kd.int .i64) w A0 l0.length l0) (hc0 : l0.length ≤ c0) (h : orielref12_In.f k l0 a1 = some r) :
    Calls Try.prog 34 #[.slice A0 l0.length c0, .int .i64 a1] w fun e w' => e = .returned (.bool r) ∧ Drawn0 w w' := by
  have HR0 := Aside0.mk hr0
  have HC0 := Aside0.mk hc0
  clear hr0 hc0
  have H : (orielref12_In.l0 k l0 a1 0) = some r := h
  clear h
  have H' := Aside0.mk H
  clear H
  go_enter Try.func34, Try.ntmps34
  go_wp2
  go_loopg [5] k (fun kq v5 w' => ∃ (x5_1 : Int), v5 = .int .i64 x5_1 ∧ Aside0 (orielref12_In.l0 kq l0 a1 x5_1 = some r) ∧ Aside0 (kq ≤ k) ∧ Drawn0 w w')
  case atStart => exact ⟨(0), (by first | rfl | (simp; done) | (simp [*]; done)), H', ⟨Nat.le_refl _⟩, by repeat (first | exact Drawn0.refl _ | apply Drawn0.step)⟩
  case round =>
    clear H'
    try clear p2
    obtain ⟨x5_1, rfl, HA, HK1, ⟨m1, rfl⟩⟩ := hrel
    cases gk with
    | zero => exact absurd HA.out (by simp [orielref12_In.l0])
    | succ k1 =>
      have H := HA.out
      clear HA
      simp only [orielref12_In.l0] at H
      by_cases c3 : x5_1 < (l0.length : Int)
      · rw [if_pos c3] at H
        have c3b0 : decide (x5_1 < (l0.length : Int)) = true := decide_eq_true c3
        clear c3
        by_cases c4 : 0 ≤ x5_1
        · rw [if_pos c4] at H
          have c4b0 : decide (0 ≤ x5_1) = true := decide_eq_true c4
          clear c4
          by_cases c5 : (rd l0 x5_1) = a1
          · rw [if_pos c5] at H
            have c5b0 : ((rd l0 x5_1) == a1) = true := beq_iff_eq.mpr c5
            have c5b1 : ((rd l0 x5_1) != a1) = false := bne_eq_false_iff_eq.mpr c5
            clear c5
            obtain rfl := Option.some.inj H
            have p124 : 0 ≤ (x5_1 : Int) := of_decide_eq_true (by first | (with_reducible assumption) | assumption)
            have q124 : x5_1 < (l0.length : Int) := of_decide_eq_true (by first | (with_reducible assumption) | assumption)
            obtain ⟨ad124, e124, hx124_0⟩ := Kd.at_int HR0.out x5_1 p124 q124
            cases e124
            replace p124 := eq_true p124
            replace q124 := eq_true q124
            go_wp2
            go_ret
            exact ⟨by first | rfl | (simp; done) | (simp [*]; done), by repeat (first | exact Drawn0.refl _ | apply Drawn0.step)⟩
          · rw [if_neg c5] at H
            have c5b0 : ((rd l0 x5_1) == a1) = false := beq_eq_false_iff_ne.mpr c5
            have c5b1 : ((rd l0 x5_1) != a1) = true := bne_iff_ne.mpr c5
            have H' := Aside0.mk H
            clear H
            have p124 : 0 ≤ (x5_1 : Int) := of_decide_eq_true (by first | (with_reducible assumption) | assumption)
            have q124 : x5_1 < (l0.length : Int) := of_decide_eq_true (by first | (with_reducible assumption) | assumption)
            obtain ⟨ad124, e124, hx124_0⟩ := Kd.at_int HR0.out x5_1 p124 q124
            cases e124
            replace p124 := eq_true p124
            replace q124 := eq_true q124
            go_wp2
            go_roundg k1
            case measure => have := HK1.out; omega
            case rel => exact ⟨(wrap64 (x5_1 + 1)), (by first | rfl | (simp; done) | (simp [*]; done)), H', ⟨by have := HK1.out; omega⟩, by repeat (first | exact Drawn0.refl _ | apply Drawn0.step)⟩
        · rw [if_neg c4] at H
          exact absurd H (by simp)
      · rw [if_neg c3] at H
        have c3b0 : decide (x5_1 < (l0.length : Int)) = false := decide_eq_false c3
        clear c3
        obtain rfl := Option.some.inj H
        go_wp2
        go_ret
        exact ⟨by first | rfl | (simp; done) | (simp [*]; done), by repeat (first | exact Drawn0.refl _ | apply Drawn0.step)⟩

end Go.Proofs.Ythgjieigpfcekaa.QM
