-- Laid by this claim's own program (mprint.py in the repo).
import Derived.Test.YtfmbfnjlennfoaaQNx0
import Derived.Test.YtfmbfnjlennfoaaQNx2
import Derived.Test.YtfmbfnjlennfoaaQNx3
import Derived.Test.YtfmbfnjlennfoaaQNx4
namespace Go.Proofs.Ytfmbfnjlennfoaa.QN
open Go.RowKit Go.Proofs.YtfmbfnjlennfoaaW.PrintWords Go.Proofs.YtfmbfnjlennfoaaW.PrintLast Go.Proofs.YtfmbfnjlennfoaaW.PrintMore
attribute [local go_sem] max2_int min2_int max_two min_two max_three min_three max_four min_four   -- for this text's walks alone
set_option linter.unusedVariables false
set_option linter.unusedSimpArgs false

/-! ### match_Linked: function 15 -/
def lkdStep (x : Int) (st : List Int × List Int) (q : S42) : List Int × List Int := if q.f0 = x ∧ st.1.contains q.f1 = false then (q.f1 :: st.1, st.2 ++ [q.f1]) else st
def lkdTwo (x : Int) (st : List Int × List Int) (p : S42) : List Int × List Int := lkdStep x (lkdStep x st p) ⟨p.f1, p.f0⟩
def lkdPass (x : Int) : List S42 → List Int × List Int → List Int × List Int
  | [], st => st
  | p :: r, st => lkdPass x r (lkdTwo x st p)
def lkdLoop : Nat → List S42 → Int → List Int → List Int → Option Bool
  | 0, _, _, _, _ => none
  | k + 1, L, b, S, O => if 1000000000 < S.length ∨ 1000000000 < O.length then none else (match O with
    | [] => some false
    | x :: r => if x = b then some true else lkdLoop k L b (lkdPass x L (S, r)).1 (lkdPass x L (S, r)).2)
def match_Linked.f (k : Nat) (L : List S42) (a b : Int) : Option Bool := if okL L = true ∧ okI a = true ∧ L.length ≤ 1000000 then lkdLoop k L b [a] [a] else none
theorem lkdLoop_mono : ∀ k, (∀ y0 y1 y2 y3, LeO (lkdLoop k y0 y1 y2 y3) (lkdLoop (k + 1) y0 y1 y2 y3))
  | 0 => fun _ _ _ _ r h => by simp [lkdLoop] at h
  | k + 1 => by
    have ih0 := lkdLoop_mono k
    intro y0 y1 y2 y3
    unfold lkdLoop
    cases y3 with
    | nil => exact LeO.refl _
    | cons x r => exact LeO.ite (LeO.refl _) (LeO.ite (LeO.refl _) (ih0 _ _ _ _))
theorem match_Linked.mono : ∀ a0 a1 a2 k, LeO (match_Linked.f k a0 a1 a2) (match_Linked.f (k + 1) a0 a1 a2) := by
  intro a0 a1 a2 k
  unfold match_Linked.f
  exact LeO.ite (lkdLoop_mono _ _ _ _ _) (LeO.refl _)
theorem lkdStep_len (x : Int) (st : List Int × List Int) (q : S42) : (lkdStep x st q).1.length ≤ st.1.length + 1 ∧ (lkdStep x st q).2.length ≤ st.2.length + 1 := by
  unfold lkdStep
  split
  · simp
  · omega
theorem ownM {w : World} {b n : Nat} {S : List Int} (h : MB w b n S) : ∃ es c, w.heap[b]? = some (.map es c) := by
  obtain ⟨D, ⟨es, c, h1, _⟩, _⟩ := h
  exact ⟨es, c, h1⟩
theorem Q_overM {α : Type} {d : Kd α} {e base : Nat} {ok : Nat → Prop} {w w1 : World} {v : Value} {xs : List α} {bm : Nat} (h : d.Q e w base ok v xs) (hm : ∃ es c, w.heap[bm]? = some (.map es c)) (hg : w.grownBy w1 (some bm)) : d.Q e w1 base ok v xs := by
  obtain ⟨es, c, hm⟩ := hm
  have h1 : d.Q e w base (fun k => ok k ∧ k ≠ bm) v xs := Kd.Q_mono (Kd.Q_bound h) (fun k hk => ⟨hk.1, fun e => by
    obtain ⟨_, _, _, q, _, cells, hc⟩ := hk
    rw [e, hm] at hc
    cases hc⟩)
  exact Kd.Q_mono (Kd.Q_grown h1 hg (fun k hk he => hk.2 (Option.some.inj he))) (fun _ hk => hk.1)
theorem Q_notM {α : Type} {d : Kd α} {e base : Nat} {ok : Nat → Prop} {w : World} {v : Value} {xs : List α} {bm : Nat} (h : d.Q e w base ok v xs) (hm : ∃ es c, w.heap[bm]? = some (.map es c)) : some bm ≠ v.ownBlock := fun he => by
  obtain ⟨es, c, hm⟩ := hm
  obtain ⟨cells, hc⟩ := Kd.Q_typed h bm he.symm
  rw [hm] at hc
  cases hc
/-- The state of rounds: the map holds S, the row v holds O. -/
structure LkdSt (w : World) (bm : Nat) (S O : List Int) (v : Value) (wr : World) : Prop where
  below : Below w.heap.size w wr
  base : w.heap.size ≤ bm
  map : MB wr bm S.length S
  row : Kd.Q (Kd.int .i64) 3 wr w.heap.size (fun _ => True) v O
theorem ls_below {w : World} {bm : Nat} {S O : List Int} {v : Value} {wr w1 : World} (h : LkdSt w bm S O v wr) (hb : Below wr.heap.size wr w1) : LkdSt w bm S O v w1 :=
  ⟨below_then h.below h.below.size hb, h.base, mb_below h.map hb, Kd.Q_below h.row hb⟩
theorem ls_put {w : World} {bm : Nat} {S O : List Int} {v : Value} {wr : World} (h : LkdSt w bm S O v wr) (i : Int) (hi : okI i = true) (hn : S.length < maxLen) :
    (Instr.mapUpdate 65 (.map (some bm)) (.int .i64 i) (.bool true)).run Try.prog wr = .ok () (mapPut wr bm i) ∧ LkdSt w bm (i :: S) O v (mapPut wr bm i) ∧ wr.grownBy (mapPut wr bm i) (some bm) := by
  obtain ⟨h1, h2, h3⟩ := mb_run h.map hn i hi
  have hb := h.base
  refine ⟨h1, ⟨⟨h3.os.trans h.below.os, h3.tape.trans h.below.tape, h3.output.trans h.below.output, Nat.le_trans h.below.size h3.size, fun k hk => ?_⟩, h.base, h2, Q_overM h.row (ownM h.map) h3⟩, h3⟩
  exact (h3.block k (Nat.lt_of_lt_of_le hk h.below.size) (by simp; omega)).trans (h.below.block k hk)
theorem ls_row {w : World} {bm : Nat} {S O O' : List Int} {v v1 : Value} {wr w1 : World} (h : LkdSt w bm S O v wr) (ho : Kd.Q (Kd.int .i64) 3 w1 w.heap.size (fun _ => True) v1 O') (hb : Below w.heap.size w w1) (hg : wr.grownBy w1 v.ownBlock) : LkdSt w bm S O' v1 w1 :=
  ⟨hb, h.base, mb_kept h.map hg (Q_notM h.row (ownM h.map)), ho⟩
theorem linked_info : (Try.prog.info? 3).map (fun i => (i.zero, i.size, i.bytes)) = some (some (.int .i64 0), 1, 8) := by kernel_rfl
theorem linked_size : ∃ i, Try.prog.info? 3 = some i ∧ i.size = 1 := by
  obtain ⟨i, hi, h⟩ := Option.map_eq_some_iff.1 linked_info
  simp only [Prod.mk.injEq] at h
  exact ⟨i, hi, h.2.1⟩
theorem arr0 (p q r s : Int) : ∀ w, (Instr.index 66 (.agg #[.int .i64 p, .int .i64 q, .int .i64 r, .int .i64 s]) (.int .i64 0)).run Try.prog w = .ok (.agg #[.int .i64 p, .int .i64 q]) w := by intro w; kernel_rfl
theorem arr1 (p q r s : Int) : ∀ w, (Instr.index 66 (.agg #[.int .i64 p, .int .i64 q, .int .i64 r, .int .i64 s]) (.int .i64 1)).run Try.prog w = .ok (.agg #[.int .i64 r, .int .i64 s]) w := by intro w; kernel_rfl
def lk2 (x : Int) (p q : S42) (i : Nat) (st : List Int × List Int) : List Int × List Int := match i with
  | 0 => lkdStep x (lkdStep x st p) q
  | 1 => lkdStep x st q
  | _ => st
set_option maxHeartbeats 4000000 in
set_option maxRecDepth 100000 in
theorem match_Linked.calls (k : Nat) (A0 : Option Addr) (c0 : Nat) (l0 : List S42) (a1 a2 : Int) (r : Bool) (w : World) (hr0 : Kd.C k42 w A0 l0.length l0) (hc0 : l0.length ≤ c0) (h : match_Linked.f k l0 a1 a2 = some r) :
    Calls Try.prog 15 #[.slice A0 l0.length c0, .int .i64 a1, .int .i64 a2] w fun e w' => e = .returned (.bool r) ∧ Below w.heap.size w w' := by
  have hu34 := Try.underlying42
  have hu22 := Try.underlying25
  have hu24 := Try.underlying44
  have hu78 := Try.underlying65
  have hu79 := Try.underlying66
  unfold match_Linked.f at h
  by_cases hok : okL l0 = true ∧ okI a1 = true ∧ l0.length ≤ 1000000
  · rw [if_pos hok] at h
    obtain ⟨hokL, hoka, hLl⟩ := hok
    have HLK := Lib.hid hokL
    have HC0 := Aside0.mk hr0
    have HF := Aside0.mk h
    have hmx := Kd.C_max hr0
    clear hokL hr0 h
    have hmm := @run_makeMap Try.prog
    obtain ⟨w2, hrun2, hm2, hg2⟩ := mb_put (mb_made w) (by decide) a1 hoka
    have hs2 : w.heap.size < w2.heap.size := by have := hg2.size; simp at this; omega
    have hst : LkdSt w w.heap.size [a1] [a1] (.slice (some ⟨w2.heap.size, 0, none⟩) 1 1) (w2.alloc (.cells #[.int .i64 a1] 3)) := by
      have hB0 : Below w.heap.size w w2 := pw_below_grown (below_alloc (Below.refl _ _) _) (some w.heap.size) (by simp) hg2 (fun k hk => by simp at hk; omega)
      refine ⟨below_alloc hB0 _, Nat.le_refl _, mb_below hm2 (below_alloc (Below.refl _ _) _), ?_⟩
      exact Kd.Q_of_R (Kd.R_of_own (enc := Value.int .i64) (h1 := fun _ => rfl) (ok := fun _ => True) (own_lit w2 w.heap.size 3 .i64 [a1] hB0.size (by simp)) (fun _ _ => trivial))
    have HST := Aside0.mk hst
    clear hm2 hg2 hst
    go_enter Try.func15, Try.ntmps15
    go_wp2
    clear hrun2
    generalize w.heap.size = bm at *
    go_loopg [8] k (fun kq v8 wr => ∃ (S O : List Int), Aside0 (lkdLoop kq l0 a2 S O = some r) ∧ Aside0 (LkdSt w bm S O v8 wr))
    case atStart => exact ⟨[a1], [a1], HF, HST⟩
    case round =>
      clear HF HST
      obtain ⟨S, O, HA, HS⟩ := hrel
      cases gk with
      | zero => exact absurd HA.out (by simp [lkdLoop])
      | succ k1 =>
      have H := HA.out
      simp only [lkdLoop] at H
      by_cases hbig : 1000000000 < S.length ∨ 1000000000 < O.length
      · rw [if_pos hbig] at H
        cases H
      rw [if_neg hbig] at H
      have hS : S.length ≤ 1000000000 := by omega
      have hO : O.length ≤ 1000000000 := by omega
      clear HA hbig
      cases O with
      | nil =>
        obtain rfl : false = r := Option.some.inj H
        obtain ⟨A, c, hv, hc⟩ := Kd.Q_slice HS.out.row
        subst hv
        have HB := Aside0.mk HS.out.below
        clear H HS
        go_wp2
        go_ret
        exact ⟨rfl, HB.out⟩
      | cons x rest =>
        obtain ⟨A, c, hv, hc⟩ := Kd.Q_slice HS.out.row
        subst hv
        obtain ⟨ad, ead, hx0⟩ := Kd.at_int (Kd.Q_reads' HS.out.row).2.2 0 (by omega) (by simp)
        cases ead
        have hx0' : wr.cell? ad = some (.int .i64 x) := by
          have h_ : wr.cell? (ad.add 0) = some (.int .i64 x) := hx0
          simpa [Addr.add] using h_
        obtain ⟨m, hm⟩ : ∃ m, (x :: rest).length = m := ⟨_, rfl⟩
        have hmp : 0 < m := by rw [← hm]; simp
        have hmp' : (0 : Int) < (m : Int) := by omega
        have hdr := Kd.Q_drop HS.out.row (k := 1) (by simp)
        obtain ⟨ti, hti, hts⟩ := linked_size
        have hcut := cut_from (P := Try.prog) 44 3 .i64 hu24 hti 1 hts (some ad) m c 1 (by omega) (by omega)
        rw [hm] at hdr hc hO ⊢
        obtain ⟨v8, hv8⟩ : ∃ v8, Value.slice (if c = 1 then some ad else (some ad).map (·.add (1 * 1))) (m - 1) (c - 1) = v8 := ⟨_, rfl⟩
        have hcut2 : ∀ W : World, (Instr.slice 44 (.slice (some ad) m c) (some (.int .i64 1)) none none).run Try.prog W = .ok v8 W := by
          rw [← hv8]
          exact hcut
        have hdr2 : Kd.Q (Kd.int .i64) 3 wr w.heap.size (fun _ => True) v8 rest := by
          rw [← hv8]
          exact hdr
        have HD := Aside0.mk (LkdSt.mk HS.out.below HS.out.base HS.out.map hdr2)
        have hrl : rest.length ≤ 1000000000 := by simp at hm; omega
        clear hcut hdr hdr2 hv8 hti hts hx0 HS hm
        by_cases hxb : x = a2
        · subst hxb
          replace H : (if x = x then some true else lkdLoop k1 l0 x (lkdPass x l0 (S, rest)).1 (lkdPass x l0 (S, rest)).2) = some r := H
          rw [if_pos rfl] at H
          obtain rfl : true = r := Option.some.inj H
          have bx : (x == x) = true := beq_self_eq_true x
          have HB := Aside0.mk HD.out.below
          clear H HD
          go_wp2
          go_ret
          exact ⟨rfl, HB.out⟩
        · replace H : (if x = a2 then some true else lkdLoop k1 l0 a2 (lkdPass x l0 (S, rest)).1 (lkdPass x l0 (S, rest)).2) = some r := H
          rw [if_neg hxb] at H
          have bx : (x == a2) = false := beq_eq_false_iff_ne.2 hxb
          obtain ⟨PS, hPS⟩ : ∃ PS, lkdPass x l0 (S, rest) = PS := ⟨_, rfl⟩
          rw [hPS] at H
          have HH := Aside0.mk H
          have HP0 := Aside0.mk (show lkdPass x (l0.drop 0) (S, rest) = PS from hPS)
          clear H hPS
          go_wp2
          clear hx0' hcut2
          obtain ⟨nL, hnL⟩ : ∃ nL, l0.length = nL := ⟨_, rfl⟩
          rw [hnL] at hLl hmx
          have HNL := Lib.hid hnL
          rw [hnL]
          clear hnL
          go_loopg [8, 11, 13, 32] nL (fun gg v8 _ _ v32 wr => ∃ (j : Nat) (st : List Int × List Int), v32 = .int .i64 j ∧ j ≤ nL ∧ nL - j ≤ gg ∧ st.1.length ≤ S.length + 2 * j ∧ st.2.length ≤ rest.length + 2 * j ∧ Aside0 (lkdPass x (l0.drop j) st = PS) ∧ Aside0 (LkdSt w bm st.1 st.2 v8 wr))
          case atStart => exact ⟨0, (S, rest), rfl, Nat.zero_le _, by omega, by dsimp only; omega, by dsimp only; omega, HP0, HD⟩
          case round =>
            clear HP0 HD
            obtain ⟨j, st, rfl, hj, hgj, hs1, hs2', HP, HS⟩ := hrel
            by_cases hlt : j < nL
            · have hltz : (j : Int) < (nL : Int) := by omega
              obtain ⟨ad1, ead1, hy0, hy1⟩ := at_T42 (Kd.C_below HC0.out HS.out.below) (j : Int) (by omega) (by rw [HNL.out]; omega)
              rw [Int.toNat_natCast] at hy0 hy1
              obtain ⟨ok0, ok1⟩ := okL_at l0 HLK.out (j : Int) (by omega) (by rw [HNL.out]; omega)
              have hdr := drop_at l0 j (by rw [HNL.out]; exact hlt)
              have hq := HP.out
              rw [hdr, lkdPass] at hq
              have HQ := Aside0.mk hq
              clear hq hdr HP
              generalize rd_T42 l0 (j : Int) = pp at hy0 hy1 ok0 ok1 HQ
              obtain ⟨p, q⟩ := pp
              dsimp only at hy0 hy1 ok0 ok1
              cases ead1
              have HS2 := Aside0.mk (ls_below HS.out (below_alloc (Below.refl wr.heap.size wr) (.cells #[.int .i64 p, .int .i64 q] 42)))
              clear HS
              go_wp2
              clear hy0 hy1
              obtain ⟨W3, hW3⟩ : ∃ W3, wr.alloc (.cells #[.int .i64 p, .int .i64 q] 42) = W3 := ⟨_, rfl⟩
              rw [hW3] at HS2
              obtain ⟨fin, hfin⟩ : ∃ fin, lkdTwo x st ⟨p, q⟩ = fin := ⟨_, rfl⟩
              rw [hfin] at HQ
              have HF0 := Aside0.mk (show lk2 x ⟨p, q⟩ ⟨q, p⟩ 0 st = fin from hfin)
              have HW3 := Lib.hid hW3
              clear hfin hW3
              try rw [HW3.out]
              generalize wr.heap.size = hp at *
              go_loopg [8, 13, 43] 2 (fun gg v8 _ v43 wr => ∃ (i : Nat) (st' : List Int × List Int), v43 = .int .i64 i ∧ i ≤ 2 ∧ 2 - i ≤ gg ∧ st'.1.length ≤ st.1.length + i ∧ st'.2.length ≤ st.2.length + i ∧ Aside0 (lk2 x ⟨p, q⟩ ⟨q, p⟩ i st' = fin) ∧ Aside0 (LkdSt w bm st'.1 st'.2 v8 wr))
              case atStart => exact ⟨0, st, rfl, by omega, by omega, by omega, by omega, HF0, HS2⟩
              case round =>
                clear HF0 HS2
                obtain ⟨i, st', rfl, hi, hgi, hl1, hl2, HL, HS⟩ := hrel
                obtain ⟨S', O'⟩ := st'
                dsimp only at hl1 hl2 HS
                by_cases hi2 : i = 2
                · subst hi2
                  obtain rfl : (S', O') = fin := HL.out
                  go_wp2
                  go_roundg (nL - (j + 1))
                  case measure => omega
                  case rel => exact ⟨j + 1, (S', O'), by go_num, by omega, Nat.le_refl _, by dsimp only; omega, by dsimp only; omega, HQ, HS⟩
                · by_cases hi0 : i = 0
                  · subst hi0
                    have HL0 := Aside0.mk (show lk2 x ⟨p, q⟩ ⟨q, p⟩ 1 (lkdStep x (S', O') ⟨p, q⟩) = fin from HL.out)
                    clear HL hi2
                    have HS3 := Aside0.mk (ls_below HS.out (below_alloc (Below.refl wr.heap.size wr) (.cells #[.int .i64 p, .int .i64 q] 42)))
                    have har := arr0 p q q p
                    have hl := mb_look HS3.out.map q ok1
                    by_cases hc : p = x
                    · subst hc
                      have bc : (p == p) = true := beq_self_eq_true _
                      cases hs : S'.contains q with
                      | true =>
                        rw [hs] at hl
                        have HX := Aside0.mk (show lk2 p ⟨p, q⟩ ⟨q, p⟩ 1 (S', O') = fin by
                          have := HL0.out
                          rw [show lkdStep p (S', O') ⟨p, q⟩ = (S', O') by unfold lkdStep; rw [if_neg (fun hh => by rw [hs] at hh; cases hh.2)]] at this
                          exact this)
                        clear HL0 hs
                        go_wp2
                        go_roundg (2 - 1)
                        case measure => omega
                        case rel => exact ⟨1, (S', O'), by go_num, by omega, Nat.le_refl _, by dsimp only; omega, by dsimp only; omega, HX, HS3⟩
                      | false =>
                        rw [hs] at hl
                        have HX := Aside0.mk (show lk2 p ⟨p, q⟩ ⟨q, p⟩ 1 (q :: S', O' ++ [q]) = fin by
                          have := HL0.out
                          rw [show lkdStep p (S', O') ⟨p, q⟩ = (q :: S', O' ++ [q]) by unfold lkdStep; rw [if_pos ⟨rfl, hs⟩]] at this
                          exact this)
                        clear HL0 hs
                        obtain ⟨r1, s1, g1⟩ := ls_put HS3.out q ok1 (by unfold maxLen; omega)
                        have z1 : (mapPut (wr.alloc (.cells #[.int .i64 p, .int .i64 q] 42)) bm q).cell? ⟨wr.heap.size, 1, none⟩ = some (.int .i64 q) := mcell_grown g1 (by unfold World.cell?; rw [blk_new wr _]; rfl) (by
                          have := mb_lt HS.out.map
                          simp; omega)
                        have S1 := Aside0.mk s1
                        clear s1 g1 HS HS3
                        go_wp2_with (at_builtin; refine Kd.Q_append (Kd.int .i64) (w0 := w) w.heap.size rfl _ _ 44 3 (.int .i64 0) 8 rfl Try.underlying44 linked_info rfl (by decide) (by decide) u8 O' q [.int .i64 q] (fun _ => True) (fun _ => False) rfl rfl rfl (fun _ h_ => h_.elim) (fun _ _ => trivial) S1.out.row S1.out.below S1.out.below.size ?hl ?hk)
                        case hl => omega
                        case hk =>
                          intro v1 w3 ho hb hgr hat
                          have HS4 := Aside0.mk (ls_row S1.out ho hb hgr)
                          clear ho hb hgr hat
                          go_wp2
                          go_roundg (2 - 1)
                          case measure => omega
                          case rel => exact ⟨1, (q :: S', O' ++ [q]), by go_num, by omega, Nat.le_refl _, by simp; omega, by simp; omega, HX, HS4⟩
                    · have bc : (p == x) = false := beq_eq_false_iff_ne.2 hc
                      have HX := Aside0.mk (show lk2 x ⟨p, q⟩ ⟨q, p⟩ 1 (S', O') = fin by
                        have := HL0.out
                        rw [show lkdStep x (S', O') ⟨p, q⟩ = (S', O') by unfold lkdStep; rw [if_neg (fun hh => hc hh.1)]] at this
                        exact this)
                      clear HL0
                      go_wp2
                      go_roundg (2 - 1)
                      case measure => omega
                      case rel => exact ⟨1, (S', O'), by go_num, by omega, Nat.le_refl _, by dsimp only; omega, by dsimp only; omega, HX, HS3⟩
                  · obtain rfl : i = 1 := by omega
                    have HL0 := Aside0.mk (show lk2 x ⟨p, q⟩ ⟨q, p⟩ 2 (lkdStep x (S', O') ⟨q, p⟩) = fin from HL.out)
                    clear HL hi2 hi0
                    have HS3 := Aside0.mk (ls_below HS.out (below_alloc (Below.refl wr.heap.size wr) (.cells #[.int .i64 q, .int .i64 p] 42)))
                    have har := arr1 p q q p
                    have hl := mb_look HS3.out.map p ok0
                    by_cases hc : q = x
                    · subst hc
                      have bc : (q == q) = true := beq_self_eq_true _
                      cases hs : S'.contains p with
                      | true =>
                        rw [hs] at hl
                        have HX := Aside0.mk (show lk2 q ⟨p, q⟩ ⟨q, p⟩ 2 (S', O') = fin by
                          have := HL0.out
                          rw [show lkdStep q (S', O') ⟨q, p⟩ = (S', O') by unfold lkdStep; rw [if_neg (fun hh => by rw [hs] at hh; cases hh.2)]] at this
                          exact this)
                        clear HL0 hs
                        go_wp2
                        go_roundg (2 - 2)
                        case measure => omega
                        case rel => exact ⟨2, (S', O'), by go_num, by omega, Nat.le_refl _, by dsimp only; omega, by dsimp only; omega, HX, HS3⟩
                      | false =>
                        rw [hs] at hl
                        have HX := Aside0.mk (show lk2 q ⟨p, q⟩ ⟨q, p⟩ 2 (p :: S', O' ++ [p]) = fin by
                          have := HL0.out
                          rw [show lkdStep q (S', O') ⟨q, p⟩ = (p :: S', O' ++ [p]) by unfold lkdStep; rw [if_pos ⟨rfl, hs⟩]] at this
                          exact this)
                        clear HL0 hs
                        obtain ⟨r1, s1, g1⟩ := ls_put HS3.out p ok0 (by unfold maxLen; omega)
                        have z1 : (mapPut (wr.alloc (.cells #[.int .i64 q, .int .i64 p] 42)) bm p).cell? ⟨wr.heap.size, 1, none⟩ = some (.int .i64 p) := mcell_grown g1 (by unfold World.cell?; rw [blk_new wr _]; rfl) (by
                          have := mb_lt HS.out.map
                          simp; omega)
                        have S1 := Aside0.mk s1
                        clear s1 g1 HS HS3
                        go_wp2_with (at_builtin; refine Kd.Q_append (Kd.int .i64) (w0 := w) w.heap.size rfl _ _ 44 3 (.int .i64 0) 8 rfl Try.underlying44 linked_info rfl (by decide) (by decide) u8 O' p [.int .i64 p] (fun _ => True) (fun _ => False) rfl rfl rfl (fun _ h_ => h_.elim) (fun _ _ => trivial) S1.out.row S1.out.below S1.out.below.size ?hl ?hk)
                        case hl => omega
                        case hk =>
                          intro v1 w3 ho hb hgr hat
                          have HS4 := Aside0.mk (ls_row S1.out ho hb hgr)
                          clear ho hb hgr hat
                          go_wp2
                          go_roundg (2 - 2)
                          case measure => omega
                          case rel => exact ⟨2, (p :: S', O' ++ [p]), by go_num, by omega, Nat.le_refl _, by simp; omega, by simp; omega, HX, HS4⟩
                    · have bc : (q == x) = false := beq_eq_false_iff_ne.2 hc
                      have HX := Aside0.mk (show lk2 x ⟨p, q⟩ ⟨q, p⟩ 2 (S', O') = fin by
                        have := HL0.out
                        rw [show lkdStep x (S', O') ⟨q, p⟩ = (S', O') by unfold lkdStep; rw [if_neg (fun hh => hc hh.1)]] at this
                        exact this)
                      clear HL0
                      go_wp2
                      go_roundg (2 - 2)
                      case measure => omega
                      case rel => exact ⟨2, (S', O'), by go_num, by omega, Nat.le_refl _, by dsimp only; omega, by dsimp only; omega, HX, HS3⟩
            · have hltz : ¬ (j : Int) < (nL : Int) := by omega
              obtain rfl : nL = j := by omega
              have hP := HP.out
              rw [List.drop_of_length_le (by rw [HNL.out]; exact Nat.le_refl _)] at hP
              obtain rfl : st = PS := hP
              clear HP
              go_wp2
              have hnl := HNL.out; clear HNL; subst hnl
              go_roundg k1
              case measure => omega
              case rel => exact ⟨st.1, st.2, HH, HS⟩
  · rw [if_neg hok] at h
    cases h



/-! ### oriellaw12_alive: function 6 -/
def oriellaw12_alive.f (k : Nat)  : Option (Bool) := (match_Links.f k (([(⟨3, 1⟩ : S42), (⟨1, 3⟩ : S42), (⟨2, 2⟩ : S42)] : List (S42)))).bind fun t113 => ((orielref12_Pairs.f k t113 (([(⟨1, 3⟩ : S42)] : List (S42)))).bind fun t119 => (if t119 = true then ((match_Class.f 4 t113).bind fun t120 => ((oriellaw01_Ints.f k t120 (([0, 1, 2, 1] : List Int))).bind fun t126 => (if t126 = true then ((match_Linked.f k t113 3 1).bind fun t127 => (if t127 = true then ((match_Linked.f k t113 2 1).bind fun t128 => (some (!t128))) else (some false))) else (some false)))) else (some false)))
theorem oriellaw12_alive.mono : ∀ k, LeO (oriellaw12_alive.f k ) (oriellaw12_alive.f (k + 1) ) := by
  intro  k
  unfold oriellaw12_alive.f
  repeat' first
      | (with_reducible exact match_Linked.mono _ _ _ _)
      | (with_reducible exact match_Links.mono _ _)
      | (with_reducible exact oriellaw01_Ints.mono _ _ _)
      | (with_reducible exact orielref12_Pairs.mono _ _ _)
      | (with_reducible exact LeO.refl _)
      | (with_reducible exact LeO.none _)
      | (with_reducible refine LeO.ite ?_ ?_)
      | (with_reducible refine LeO.bind ?_ (fun _ => ?_))
      | exact match_Linked.mono _ _ _ _
      | exact match_Links.mono _ _
      | exact oriellaw01_Ints.mono _ _ _
      | exact orielref12_Pairs.mono _ _ _
      | exact LeO.none _
      | refine LeO.ite ?_ ?_
      | refine LeO.bind ?_ (fun _ => ?_)
set_option maxHeartbeats 8000000 in
set_option maxRecDepth 100000 in
theorem oriellaw12_alive.calls (k : Nat)  (r : Bool) (w : World) (h : oriellaw12_alive.f k  = some r) :
    Calls Try.prog 6 #[] w fun e w' => e = .returned (.bool r) ∧ Below w.heap.size w w' := by
  have hu42 := Try.underlying42
  have HB := Aside0.mk (Below.refl w.heap.size w)
  have H : ((match_Links.f k (([(⟨3, 1⟩ : S42), (⟨1, 3⟩ : S42), (⟨2, 2⟩ : S42)] : List (S42)))).bind fun t113 => ((orielref12_Pairs.f k t113 (([(⟨1, 3⟩ : S42)] : List (S42)))).bind fun t119 => (if t119 = true then ((match_Class.f 4 t113).bind fun t120 => ((oriellaw01_Ints.f k t120 (([0, 1, 2, 1] : List Int))).bind fun t126 => (if t126 = true then ((match_Linked.f k t113 3 1).bind fun t127 => (if t127 = true then ((match_Linked.f k t113 2 1).bind fun t128 => (some (!t128))) else (some false))) else (some false)))) else (some false)))) = some r := h
  clear h
  obtain ⟨y110, hy110⟩ : ∃ y_ : List (S42), y_ = (([(⟨3, 1⟩ : S42), (⟨1, 3⟩ : S42), (⟨2, 2⟩ : S42)] : List (S42))) := ⟨_, rfl⟩
  replace H : ((match_Links.f k y110).bind fun t113 => ((orielref12_Pairs.f k t113 (([(⟨1, 3⟩ : S42)] : List (S42)))).bind fun t119 => (if t119 = true then ((match_Class.f 4 t113).bind fun t120 => ((oriellaw01_Ints.f k t120 (([0, 1, 2, 1] : List Int))).bind fun t126 => (if t126 = true then ((match_Linked.f k t113 3 1).bind fun t127 => (if t127 = true then ((match_Linked.f k t113 2 1).bind fun t128 => (some (!t128))) else (some false))) else (some false)))) else (some false)))) = some r := by first | (rw [hy110]; with_reducible exact H) | (have H2_ := (Option.bind_some _ _).symm.trans H; rw [hy110]; with_reducible exact H2_) | (have H2_ := (Option.bind_some _ _).symm.trans H; with_reducible exact H2_) | with_reducible exact H | (rw [hy110]; exact H) | exact H
  have Ny110 := Aside0.mk hy110
  clear hy110
  replace H := Option.bind_eq_some_iff.mp H
  obtain ⟨t113, A10, H⟩ := H
  replace H : ((orielref12_Pairs.f k t113 (([(⟨1, 3⟩ : S42)] : List (S42)))).bind fun t119 => (if t119 = true then ((match_Class.f 4 t113).bind fun t120 => ((oriellaw01_Ints.f k t120 (([0, 1, 2, 1] : List Int))).bind fun t126 => (if t126 = true then ((match_Linked.f k t113 3 1).bind fun t127 => (if t127 = true then ((match_Linked.f k t113 2 1).bind fun t128 => (some (!t128))) else (some false))) else (some false)))) else (some false))) = some r := H
  have A1 := Aside0.mk A10
  clear A10
  obtain ⟨y116, hy116⟩ : ∃ y_ : List (S42), y_ = (([(⟨1, 3⟩ : S42)] : List (S42))) := ⟨_, rfl⟩
  replace H : ((orielref12_Pairs.f k t113 y116).bind fun t119 => (if t119 = true then ((match_Class.f 4 t113).bind fun t120 => ((oriellaw01_Ints.f k t120 (([0, 1, 2, 1] : List Int))).bind fun t126 => (if t126 = true then ((match_Linked.f k t113 3 1).bind fun t127 => (if t127 = true then ((match_Linked.f k t113 2 1).bind fun t128 => (some (!t128))) else (some false))) else (some false)))) else (some false))) = some r := by first | (rw [hy116]; with_reducible exact H) | (have H2_ := (Option.bind_some _ _).symm.trans H; rw [hy116]; with_reducible exact H2_) | (have H2_ := (Option.bind_some _ _).symm.trans H; with_reducible exact H2_) | with_reducible exact H | (rw [hy116]; exact H) | exact H
  have Ny116 := Aside0.mk hy116
  clear hy116
  replace H := Option.bind_eq_some_iff.mp H
  obtain ⟨t119, A20, H⟩ := H
  replace H : (if t119 = true then ((match_Class.f 4 t113).bind fun t120 => ((oriellaw01_Ints.f k t120 (([0, 1, 2, 1] : List Int))).bind fun t126 => (if t126 = true then ((match_Linked.f k t113 3 1).bind fun t127 => (if t127 = true then ((match_Linked.f k t113 2 1).bind fun t128 => (some (!t128))) else (some false))) else (some false)))) else (some false)) = some r := H
  have A2 := Aside0.mk A20
  clear A20
  by_cases c3 : t119 = true
  · subst c3
    have H1 : ((match_Class.f 4 t113).bind fun t120 => ((oriellaw01_Ints.f k t120 (([0, 1, 2, 1] : List Int))).bind fun t126 => (if t126 = true then ((match_Linked.f k t113 3 1).bind fun t127 => (if t127 = true then ((match_Linked.f k t113 2 1).bind fun t128 => (some (!t128))) else (some false))) else (some false)))) = some r := by rw [if_pos rfl] at H; exact H
    clear H
    have H := H1
    clear H1
    replace H := Option.bind_eq_some_iff.mp H
    obtain ⟨t120, A40, H⟩ := H
    replace H : ((oriellaw01_Ints.f k t120 (([0, 1, 2, 1] : List Int))).bind fun t126 => (if t126 = true then ((match_Linked.f k t113 3 1).bind fun t127 => (if t127 = true then ((match_Linked.f k t113 2 1).bind fun t128 => (some (!t128))) else (some false))) else (some false))) = some r := H
    have A4 := Aside0.mk A40
    clear A40
    obtain ⟨y123, hy123⟩ : ∃ y_ : List Int, y_ = (([0, 1, 2, 1] : List Int)) := ⟨_, rfl⟩
    replace H : ((oriellaw01_Ints.f k t120 y123).bind fun t126 => (if t126 = true then ((match_Linked.f k t113 3 1).bind fun t127 => (if t127 = true then ((match_Linked.f k t113 2 1).bind fun t128 => (some (!t128))) else (some false))) else (some false))) = some r := by first | (rw [hy123]; with_reducible exact H) | (have H2_ := (Option.bind_some _ _).symm.trans H; rw [hy123]; with_reducible exact H2_) | (have H2_ := (Option.bind_some _ _).symm.trans H; with_reducible exact H2_) | with_reducible exact H | (rw [hy123]; exact H) | exact H
    have Ny123 := Aside0.mk hy123
    clear hy123
    replace H := Option.bind_eq_some_iff.mp H
    obtain ⟨t126, A50, H⟩ := H
    replace H : (if t126 = true then ((match_Linked.f k t113 3 1).bind fun t127 => (if t127 = true then ((match_Linked.f k t113 2 1).bind fun t128 => (some (!t128))) else (some false))) else (some false)) = some r := H
    have A5 := Aside0.mk A50
    clear A50
    by_cases c6 : t126 = true
    · subst c6
      have H1 : ((match_Linked.f k t113 3 1).bind fun t127 => (if t127 = true then ((match_Linked.f k t113 2 1).bind fun t128 => (some (!t128))) else (some false))) = some r := by rw [if_pos rfl] at H; exact H
      clear H
      have H := H1
      clear H1
      replace H := Option.bind_eq_some_iff.mp H
      obtain ⟨t127, A70, H⟩ := H
      replace H : (if t127 = true then ((match_Linked.f k t113 2 1).bind fun t128 => (some (!t128))) else (some false)) = some r := H
      have A7 := Aside0.mk A70
      clear A70
      by_cases c8 : t127 = true
      · subst c8
        have H1 : ((match_Linked.f k t113 2 1).bind fun t128 => (some (!t128))) = some r := by rw [if_pos rfl] at H; exact H
        clear H
        have H := H1
        clear H1
        replace H := Option.bind_eq_some_iff.mp H
        obtain ⟨t128, A90, H⟩ := H
        replace H : (some (!t128)) = some r := H
        have A9 := Aside0.mk A90
        clear A90
        obtain rfl := Option.some.inj H
        go_enter Try.func6, Try.ntmps6
        go_wp2_with (first | ((with_reducible refine gate_dst (N := 5) rfl ?_); (try (refine gate_guard (by rfl) ?_; dsimp only)); refine Kd.R_lit k42 _ 42 ?hg (N := 5) ?hd (xs := ([(⟨3, 1⟩ : S42), (⟨1, 3⟩ : S42), (⟨2, 2⟩ : S42)] : List (S42))) (inner := [.int .i64 3, .int .i64 1, .int .i64 1, .int .i64 3, .int .i64 2, .int .i64 2]) (ok := fun _ => True) (okp := fun _ => True) ?hr ?hp (fun _ hk => hk) trivial (Below.refl _ _) (Nat.le_refl _) (by simp) ?_; (case hd => rfl); (case hg => rfl); (case hr => first | (go_simp; done) | (go_simp; rfl)); (case hp => exact (Reps.c2 (show Kd.M k42 _ _ _ (⟨3, 1⟩ : S42) [.int .i64 3, .int .i64 1] from (k42_mkM _ _ _ (⟨3, 1⟩ : S42) )) (Reps.c2 (show Kd.M k42 _ _ _ (⟨1, 3⟩ : S42) [.int .i64 1, .int .i64 3] from (k42_mkM _ _ _ (⟨1, 3⟩ : S42) )) (Reps.c2 (show Kd.M k42 _ _ _ (⟨2, 2⟩ : S42) [.int .i64 2, .int .i64 2] from (k42_mkM _ _ _ (⟨2, 2⟩ : S42) )) (Reps.none _ _))))); intro v111 w10 ho11 hb hg_ hnew_; clear hg_ hnew_; (first | rw [← Ny110.out] at ho11 | (simp only [Int.reduceToNat] at ho11; rw [← Ny110.out] at ho11)); have n0_ := Aside0.mk (Kd.R_lower ho11 (below_size (by repeat (first | (with_reducible first | exact HB.out | apply below_alloc | apply pw_below_drewN | apply below_drew1) | exact HB.out)))); have n1_ := Aside0.mk (below_step (by repeat (first | (with_reducible first | exact HB.out | apply below_alloc | apply pw_below_drewN | apply below_drew1) | exact HB.out)) hb); clear HB; have HO112 := n0_; have HB := n1_; clear n0_ n1_; clear hb ho11; obtain ⟨Ao12, co12, eo12⟩ := Kd.R_slice HO112.out; subst eo12) | ((with_reducible refine gate_callee (f := 12) rfl ?_); refine goesL_ (some 6) rfl rfl Try.func12 (by kernel_rfl) rfl #[.slice Ao12 y110.length co12] rfl (by (try simp only [List.map_toArray, List.map_cons, List.map_nil]); first | done | rfl | (simp only [List.length_drop, List.length_take]; rfl)) ?_; (with_reducible refine (match_Links.calls k _ _ y110 t113 _ ?side1 ?side2 A1.out).mono ?_); (case side1 => repeat (first | exact (Kd.R_reads' HO112.out).2.2 | (with_reducible refine Kd.C_alloc ?_ _) | (with_reducible refine Kd.C_drewN ?_ _) | (with_reducible refine Kd.C_drew ?_))); (case side2 => exact (Kd.R_reads' HO112.out).2.1); rintro e w13 ⟨v114, rfl, ho0, hb⟩; refine ⟨_, rfl, ?_⟩; have n0_ := Aside0.mk (Kd.R_elder' (by (with_reducible repeat (first | apply Kd.R_alloc | apply Kd.R_drewN | apply Kd.R_drew)); exact HO112.out) (Kd.R_base ho0) hb); have n1_ := Aside0.mk (Kd.R_lower (Kd.R_new' ho0 (Kd.R_lt (by (with_reducible repeat (first | apply Kd.R_alloc | apply Kd.R_drewN | apply Kd.R_drew)); exact HO112.out))) (below_size (by repeat (first | (with_reducible first | exact HB.out | apply below_alloc | apply pw_below_drewN | apply below_drew1) | exact HB.out)))); have n2_ := Aside0.mk (below_step (by repeat (first | (with_reducible first | exact HB.out | apply below_alloc | apply pw_below_drewN | apply below_drew1) | exact HB.out)) hb); clear HO112; clear HB; have HO112 := n0_; have HO115 := n1_; have HB := n2_; clear n0_ n1_ n2_; (try clear hb); (try clear hb2); (try clear hk); (try clear hi); (try clear ho0)) | ((with_reducible refine gate_dst (N := 9) rfl ?_); (try (refine gate_guard (by rfl) ?_; dsimp only)); refine Kd.R_lit k42 _ 42 ?hg (N := 9) ?hd (xs := ([(⟨1, 3⟩ : S42)] : List (S42))) (inner := [.int .i64 1, .int .i64 3]) (ok := fun _ => True) (okp := fun _ => True) ?hr ?hp (fun _ hk => hk) trivial (Below.refl _ _) (Nat.le_refl _) (by simp) ?_; (case hd => rfl); (case hg => rfl); (case hr => first | (go_simp; done) | (go_simp; rfl)); (case hp => exact (Reps.c2 (show Kd.M k42 _ _ _ (⟨1, 3⟩ : S42) [.int .i64 1, .int .i64 3] from (k42_mkM _ _ _ (⟨1, 3⟩ : S42) )) (Reps.none _ _))); intro v117 w14 ho15 hb hg_ hnew_; clear hg_ hnew_; (first | rw [← Ny116.out] at ho15 | (simp only [Int.reduceToNat] at ho15; rw [← Ny116.out] at ho15)); have n0_ := Aside0.mk (Kd.R_elder' (by (with_reducible repeat (first | apply Kd.R_alloc | apply Kd.R_drewN | apply Kd.R_drew)); exact HO112.out) (Kd.R_base ho15) hb); have n1_ := Aside0.mk (Kd.R_elder' (by (with_reducible repeat (first | apply Kd.R_alloc | apply Kd.R_drewN | apply Kd.R_drew)); exact HO115.out) (Kd.R_base ho15) hb); have n2_ := Aside0.mk (Kd.R_lower (Kd.R_new' (Kd.R_new' ho15 (Kd.R_lt (by (with_reducible repeat (first | apply Kd.R_alloc | apply Kd.R_drewN | apply Kd.R_drew)); exact HO112.out))) (Kd.R_lt (by (with_reducible repeat (first | apply Kd.R_alloc | apply Kd.R_drewN | apply Kd.R_drew)); exact HO115.out))) (below_size (by repeat (first | (with_reducible first | exact HB.out | apply below_alloc | apply pw_below_drewN | apply below_drew1) | exact HB.out)))); have n3_ := Aside0.mk (below_step (by repeat (first | (with_reducible first | exact HB.out | apply below_alloc | apply pw_below_drewN | apply below_drew1) | exact HB.out)) hb); clear HO112; clear HO115; clear HB; have HO112 := n0_; have HO115 := n1_; have HO118 := n2_; have HB := n3_; clear n0_ n1_ n2_ n3_; clear hb ho15; obtain ⟨Ao16, co16, eo16⟩ := Kd.R_slice HO115.out; subst eo16; obtain ⟨Ao17, co17, eo17⟩ := Kd.R_slice HO118.out; subst eo17) | ((with_reducible refine gate_callee (f := 10) rfl ?_); refine goesL_ (some 10) rfl rfl Try.func10 (by kernel_rfl) rfl #[.slice Ao16 t113.length co16, .slice Ao17 y116.length co17] rfl (by (try simp only [List.map_toArray, List.map_cons, List.map_nil]); first | done | rfl | (simp only [List.length_drop, List.length_take]; rfl)) ?_; (with_reducible refine (orielref12_Pairs.calls k _ _ t113 _ _ y116 true _ ?side1 ?side2 ?side3 ?side4 A2.out).mono ?_); (case side1 => repeat (first | exact (Kd.R_reads' HO115.out).2.2 | (with_reducible refine Kd.C_alloc ?_ _) | (with_reducible refine Kd.C_drewN ?_ _) | (with_reducible refine Kd.C_drew ?_))); (case side2 => exact (Kd.R_reads' HO115.out).2.1); (case side3 => repeat (first | exact (Kd.R_reads' HO118.out).2.2 | (with_reducible refine Kd.C_alloc ?_ _) | (with_reducible refine Kd.C_drewN ?_ _) | (with_reducible refine Kd.C_drew ?_))); (case side4 => exact (Kd.R_reads' HO118.out).2.1); rintro e w' ⟨rfl, ⟨nd, rfl⟩⟩; refine ⟨_, rfl, ?_⟩) | (go_at_call 14; (with_reducible refine (match_Class.calls 4 _ _ t113 t120 _ ?side1 ?side2 A4.out).mono ?_); (case side1 => repeat (first | exact (Kd.R_reads' HO115.out).2.2 | (with_reducible refine Kd.C_alloc ?_ _) | (with_reducible refine Kd.C_drewN ?_ _) | (with_reducible refine Kd.C_drew ?_))); (case side2 => exact (Kd.R_reads' HO115.out).2.1); rintro e w18 ⟨v121, rfl, ho0, hb⟩; have n0_ := Aside0.mk (Kd.R_below (by (with_reducible repeat (first | apply Kd.R_alloc | apply Kd.R_drewN | apply Kd.R_drew)); exact HO112.out) hb); have n1_ := Aside0.mk (Kd.R_below (by (with_reducible repeat (first | apply Kd.R_alloc | apply Kd.R_drewN | apply Kd.R_drew)); exact HO115.out) hb); have n2_ := Aside0.mk (Kd.R_below (by (with_reducible repeat (first | apply Kd.R_alloc | apply Kd.R_drewN | apply Kd.R_drew)); exact HO118.out) hb); have n3_ := Aside0.mk (Kd.R_lower ho0 (below_size (by repeat (first | (with_reducible first | exact HB.out | apply below_alloc | apply pw_below_drewN | apply below_drew1) | exact HB.out)))); have n4_ := Aside0.mk (below_step (by repeat (first | (with_reducible first | exact HB.out | apply below_alloc | apply pw_below_drewN | apply below_drew1) | exact HB.out)) hb); clear HO112; clear HO115; clear HO118; clear HB; have HO112 := n0_; have HO115 := n1_; have HO118 := n2_; have HO122 := n3_; have HB := n4_; clear n0_ n1_ n2_ n3_ n4_; (try clear hb); (try clear hb2); (try clear hk); (try clear hi); (try clear ho0)) | ((with_reducible refine gate_dst (N := 14) rfl ?_); (try (refine gate_guard (by rfl) ?_; dsimp only)); refine Kd.R_lit (Kd.int .i64) _ 3 ?hg (N := 14) ?hd (xs := ([0, 1, 2, 1] : List Int)) (inner := [.int .i64 0, .int .i64 1, .int .i64 2, .int .i64 1]) (ok := fun _ => True) (okp := fun _ => True) ?hr ?hp (fun _ hk => hk) trivial (Below.refl _ _) (Nat.le_refl _) (by simp) ?_; (case hd => rfl); (case hg => rfl); (case hr => first | (go_simp; done) | (go_simp; rfl)); (case hp => exact (Reps.one (show Kd.M (Kd.int .i64) _ _ _ 0 [.int .i64 0] from rfl) (Reps.one (show Kd.M (Kd.int .i64) _ _ _ 1 [.int .i64 1] from rfl) (Reps.one (show Kd.M (Kd.int .i64) _ _ _ 2 [.int .i64 2] from rfl) (Reps.one (show Kd.M (Kd.int .i64) _ _ _ 1 [.int .i64 1] from rfl) (Reps.none _ _)))))); intro v124 w19 ho20 hb hg_ hnew_; clear hg_ hnew_; (first | rw [← Ny123.out] at ho20 | (simp only [Int.reduceToNat] at ho20; rw [← Ny123.out] at ho20)); have n0_ := Aside0.mk (Kd.R_below (by (with_reducible repeat (first | apply Kd.R_alloc | apply Kd.R_drewN | apply Kd.R_drew)); exact HO112.out) hb); have n1_ := Aside0.mk (Kd.R_below (by (with_reducible repeat (first | apply Kd.R_alloc | apply Kd.R_drewN | apply Kd.R_drew)); exact HO115.out) hb); have n2_ := Aside0.mk (Kd.R_below (by (with_reducible repeat (first | apply Kd.R_alloc | apply Kd.R_drewN | apply Kd.R_drew)); exact HO118.out) hb); have n3_ := Aside0.mk (Kd.R_elder' (by (with_reducible repeat (first | apply Kd.R_alloc | apply Kd.R_drewN | apply Kd.R_drew)); exact HO122.out) (Kd.R_base ho20) hb); have n4_ := Aside0.mk (Kd.R_lower (Kd.R_new' ho20 (Kd.R_lt (by (with_reducible repeat (first | apply Kd.R_alloc | apply Kd.R_drewN | apply Kd.R_drew)); exact HO122.out))) (below_size (by repeat (first | (with_reducible first | exact HB.out | apply below_alloc | apply pw_below_drewN | apply below_drew1) | exact HB.out)))); have n5_ := Aside0.mk (below_step (by repeat (first | (with_reducible first | exact HB.out | apply below_alloc | apply pw_below_drewN | apply below_drew1) | exact HB.out)) hb); clear HO112; clear HO115; clear HO118; clear HO122; clear HB; have HO112 := n0_; have HO115 := n1_; have HO118 := n2_; have HO122 := n3_; have HO125 := n4_; have HB := n5_; clear n0_ n1_ n2_ n3_ n4_ n5_; clear hb ho20; obtain ⟨Ao21, co21, eo21⟩ := Kd.R_slice HO122.out; subst eo21; obtain ⟨Ao22, co22, eo22⟩ := Kd.R_slice HO125.out; subst eo22) | (go_at_call 13; (with_reducible refine (oriellaw01_Ints.calls k _ _ t120 _ _ y123 true _ ?side1 ?side2 ?side3 ?side4 A5.out).mono ?_); (case side1 => repeat (first | exact (Kd.R_reads' HO122.out).2.2 | (with_reducible refine Kd.C_alloc ?_ _) | (with_reducible refine Kd.C_drewN ?_ _) | (with_reducible refine Kd.C_drew ?_))); (case side2 => exact (Kd.R_reads' HO122.out).2.1); (case side3 => repeat (first | exact (Kd.R_reads' HO125.out).2.2 | (with_reducible refine Kd.C_alloc ?_ _) | (with_reducible refine Kd.C_drewN ?_ _) | (with_reducible refine Kd.C_drew ?_))); (case side4 => exact (Kd.R_reads' HO125.out).2.1); rintro e w' ⟨rfl, ⟨nd, rfl⟩⟩) | (go_at_call 15; (with_reducible refine (match_Linked.calls k _ _ t113 3 1 true _ ?side1 ?side2 A7.out).mono ?_); (case side1 => repeat (first | exact (Kd.R_reads' HO115.out).2.2 | (with_reducible refine Kd.C_alloc ?_ _) | (with_reducible refine Kd.C_drewN ?_ _) | (with_reducible refine Kd.C_drew ?_))); (case side2 => exact (Kd.R_reads' HO115.out).2.1); rintro e w23 ⟨rfl, hb⟩; have n0_ := Aside0.mk (Kd.R_below (by (with_reducible repeat (first | apply Kd.R_alloc | apply Kd.R_drewN | apply Kd.R_drew)); exact HO112.out) hb); have n1_ := Aside0.mk (Kd.R_below (by (with_reducible repeat (first | apply Kd.R_alloc | apply Kd.R_drewN | apply Kd.R_drew)); exact HO115.out) hb); have n2_ := Aside0.mk (Kd.R_below (by (with_reducible repeat (first | apply Kd.R_alloc | apply Kd.R_drewN | apply Kd.R_drew)); exact HO118.out) hb); have n3_ := Aside0.mk (Kd.R_below (by (with_reducible repeat (first | apply Kd.R_alloc | apply Kd.R_drewN | apply Kd.R_drew)); exact HO122.out) hb); have n4_ := Aside0.mk (Kd.R_below (by (with_reducible repeat (first | apply Kd.R_alloc | apply Kd.R_drewN | apply Kd.R_drew)); exact HO125.out) hb); have n5_ := Aside0.mk (below_step (by repeat (first | (with_reducible first | exact HB.out | apply below_alloc | apply pw_below_drewN | apply below_drew1) | exact HB.out)) hb); clear HO112; clear HO115; clear HO118; clear HO122; clear HO125; clear HB; have HO112 := n0_; have HO115 := n1_; have HO118 := n2_; have HO122 := n3_; have HO125 := n4_; have HB := n5_; clear n0_ n1_ n2_ n3_ n4_ n5_; (try clear hb); (try clear hb2); (try clear hk); (try clear hi)) | (go_at_call 15; (with_reducible refine (match_Linked.calls k _ _ t113 2 1 t128 _ ?side1 ?side2 A9.out).mono ?_); (case side1 => repeat (first | exact (Kd.R_reads' HO115.out).2.2 | (with_reducible refine Kd.C_alloc ?_ _) | (with_reducible refine Kd.C_drewN ?_ _) | (with_reducible refine Kd.C_drew ?_))); (case side2 => exact (Kd.R_reads' HO115.out).2.1); rintro e w24 ⟨rfl, hb⟩; have n0_ := Aside0.mk (Kd.R_below (by (with_reducible repeat (first | apply Kd.R_alloc | apply Kd.R_drewN | apply Kd.R_drew)); exact HO112.out) hb); have n1_ := Aside0.mk (Kd.R_below (by (with_reducible repeat (first | apply Kd.R_alloc | apply Kd.R_drewN | apply Kd.R_drew)); exact HO115.out) hb); have n2_ := Aside0.mk (Kd.R_below (by (with_reducible repeat (first | apply Kd.R_alloc | apply Kd.R_drewN | apply Kd.R_drew)); exact HO118.out) hb); have n3_ := Aside0.mk (Kd.R_below (by (with_reducible repeat (first | apply Kd.R_alloc | apply Kd.R_drewN | apply Kd.R_drew)); exact HO122.out) hb); have n4_ := Aside0.mk (Kd.R_below (by (with_reducible repeat (first | apply Kd.R_alloc | apply Kd.R_drewN | apply Kd.R_drew)); exact HO125.out) hb); have n5_ := Aside0.mk (below_step (by repeat (first | (with_reducible first | exact HB.out | apply below_alloc | apply pw_below_drewN | apply below_drew1) | exact HB.out)) hb); clear HO112; clear HO115; clear HO118; clear HO122; clear HO125; clear HB; have HO112 := n0_; have HO115 := n1_; have HO118 := n2_; have HO122 := n3_; have HO125 := n4_; have HB := n5_; clear n0_ n1_ n2_ n3_ n4_ n5_; (try clear hb); (try clear hb2); (try clear hk); (try clear hi)))
        go_ret
        exact ⟨by first | rfl | (simp [errW_none, errW_some] <;> rfl) | (simp [*, errW_none, errW_some] <;> rfl), by repeat (first | (with_reducible first | exact HB.out | apply below_alloc | apply pw_below_drewN | apply below_drew1) | exact HB.out)⟩
      · replace c8 := Bool.eq_false_iff.mpr c8
        subst c8
        have H1 : (some false) = some r := by rw [if_neg (show ¬ (false = true) by decide)] at H; exact H
        clear H
        have H := H1
        clear H1
        obtain rfl := Option.some.inj H
        go_enter Try.func6, Try.ntmps6
        go_wp2_with (first | ((with_reducible refine gate_dst (N := 5) rfl ?_); (try (refine gate_guard (by rfl) ?_; dsimp only)); refine Kd.R_lit k42 _ 42 ?hg (N := 5) ?hd (xs := ([(⟨3, 1⟩ : S42), (⟨1, 3⟩ : S42), (⟨2, 2⟩ : S42)] : List (S42))) (inner := [.int .i64 3, .int .i64 1, .int .i64 1, .int .i64 3, .int .i64 2, .int .i64 2]) (ok := fun _ => True) (okp := fun _ => True) ?hr ?hp (fun _ hk => hk) trivial (Below.refl _ _) (Nat.le_refl _) (by simp) ?_; (case hd => rfl); (case hg => rfl); (case hr => first | (go_simp; done) | (go_simp; rfl)); (case hp => exact (Reps.c2 (show Kd.M k42 _ _ _ (⟨3, 1⟩ : S42) [.int .i64 3, .int .i64 1] from (k42_mkM _ _ _ (⟨3, 1⟩ : S42) )) (Reps.c2 (show Kd.M k42 _ _ _ (⟨1, 3⟩ : S42) [.int .i64 1, .int .i64 3] from (k42_mkM _ _ _ (⟨1, 3⟩ : S42) )) (Reps.c2 (show Kd.M k42 _ _ _ (⟨2, 2⟩ : S42) [.int .i64 2, .int .i64 2] from (k42_mkM _ _ _ (⟨2, 2⟩ : S42) )) (Reps.none _ _))))); intro v111 w25 ho26 hb hg_ hnew_; clear hg_ hnew_; (first | rw [← Ny110.out] at ho26 | (simp only [Int.reduceToNat] at ho26; rw [← Ny110.out] at ho26)); have n0_ := Aside0.mk (Kd.R_lower ho26 (below_size (by repeat (first | (with_reducible first | exact HB.out | apply below_alloc | apply pw_below_drewN | apply below_drew1) | exact HB.out)))); have n1_ := Aside0.mk (below_step (by repeat (first | (with_reducible first | exact HB.out | apply below_alloc | apply pw_below_drewN | apply below_drew1) | exact HB.out)) hb); clear HB; have HO112 := n0_; have HB := n1_; clear n0_ n1_; clear hb ho26; obtain ⟨Ao27, co27, eo27⟩ := Kd.R_slice HO112.out; subst eo27) | ((with_reducible refine gate_callee (f := 12) rfl ?_); refine goesL_ (some 6) rfl rfl Try.func12 (by kernel_rfl) rfl #[.slice Ao27 y110.length co27] rfl (by (try simp only [List.map_toArray, List.map_cons, List.map_nil]); first | done | rfl | (simp only [List.length_drop, List.length_take]; rfl)) ?_; (with_reducible refine (match_Links.calls k _ _ y110 t113 _ ?side1 ?side2 A1.out).mono ?_); (case side1 => repeat (first | exact (Kd.R_reads' HO112.out).2.2 | (with_reducible refine Kd.C_alloc ?_ _) | (with_reducible refine Kd.C_drewN ?_ _) | (with_reducible refine Kd.C_drew ?_))); (case side2 => exact (Kd.R_reads' HO112.out).2.1); rintro e w28 ⟨v114, rfl, ho0, hb⟩; refine ⟨_, rfl, ?_⟩; have n0_ := Aside0.mk (Kd.R_elder' (by (with_reducible repeat (first | apply Kd.R_alloc | apply Kd.R_drewN | apply Kd.R_drew)); exact HO112.out) (Kd.R_base ho0) hb); have n1_ := Aside0.mk (Kd.R_lower (Kd.R_new' ho0 (Kd.R_lt (by (with_reducible repeat (first | apply Kd.R_alloc | apply Kd.R_drewN | apply Kd.R_drew)); exact HO112.out))) (below_size (by repeat (first | (with_reducible first | exact HB.out | apply below_alloc | apply pw_below_drewN | apply below_drew1) | exact HB.out)))); have n2_ := Aside0.mk (below_step (by repeat (first | (with_reducible first | exact HB.out | apply below_alloc | apply pw_below_drewN | apply below_drew1) | exact HB.out)) hb); clear HO112; clear HB; have HO112 := n0_; have HO115 := n1_; have HB := n2_; clear n0_ n1_ n2_; (try clear hb); (try clear hb2); (try clear hk); (try clear hi); (try clear ho0)) | ((with_reducible refine gate_dst (N := 9) rfl ?_); (try (refine gate_guard (by rfl) ?_; dsimp only)); refine Kd.R_lit k42 _ 42 ?hg (N := 9) ?hd (xs := ([(⟨1, 3⟩ : S42)] : List (S42))) (inner := [.int .i64 1, .int .i64 3]) (ok := fun _ => True) (okp := fun _ => True) ?hr ?hp (fun _ hk => hk) trivial (Below.refl _ _) (Nat.le_refl _) (by simp) ?_; (case hd => rfl); (case hg => rfl); (case hr => first | (go_simp; done) | (go_simp; rfl)); (case hp => exact (Reps.c2 (show Kd.M k42 _ _ _ (⟨1, 3⟩ : S42) [.int .i64 1, .int .i64 3] from (k42_mkM _ _ _ (⟨1, 3⟩ : S42) )) (Reps.none _ _))); intro v117 w29 ho30 hb hg_ hnew_; clear hg_ hnew_; (first | rw [← Ny116.out] at ho30 | (simp only [Int.reduceToNat] at ho30; rw [← Ny116.out] at ho30)); have n0_ := Aside0.mk (Kd.R_elder' (by (with_reducible repeat (first | apply Kd.R_alloc | apply Kd.R_drewN | apply Kd.R_drew)); exact HO112.out) (Kd.R_base ho30) hb); have n1_ := Aside0.mk (Kd.R_elder' (by (with_reducible repeat (first | apply Kd.R_alloc | apply Kd.R_drewN | apply Kd.R_drew)); exact HO115.out) (Kd.R_base ho30) hb); have n2_ := Aside0.mk (Kd.R_lower (Kd.R_new' (Kd.R_new' ho30 (Kd.R_lt (by (with_reducible repeat (first | apply Kd.R_alloc | apply Kd.R_drewN | apply Kd.R_drew)); exact HO112.out))) (Kd.R_lt (by (with_reducible repeat (first | apply Kd.R_alloc | apply Kd.R_drewN | apply Kd.R_drew)); exact HO115.out))) (below_size (by repeat (first | (with_reducible first | exact HB.out | apply below_alloc | apply pw_below_drewN | apply below_drew1) | exact HB.out)))); have n3_ := Aside0.mk (below_step (by repeat (first | (with_reducible first | exact HB.out | apply below_alloc | apply pw_below_drewN | apply below_drew1) | exact HB.out)) hb); clear HO112; clear HO115; clear HB; have HO112 := n0_; have HO115 := n1_; have HO118 := n2_; have HB := n3_; clear n0_ n1_ n2_ n3_; clear hb ho30; obtain ⟨Ao31, co31, eo31⟩ := Kd.R_slice HO115.out; subst eo31; obtain ⟨Ao32, co32, eo32⟩ := Kd.R_slice HO118.out; subst eo32) | ((with_reducible refine gate_callee (f := 10) rfl ?_); refine goesL_ (some 10) rfl rfl Try.func10 (by kernel_rfl) rfl #[.slice Ao31 t113.length co31, .slice Ao32 y116.length co32] rfl (by (try simp only [List.map_toArray, List.map_cons, List.map_nil]); first | done | rfl | (simp only [List.length_drop, List.length_take]; rfl)) ?_; (with_reducible refine (orielref12_Pairs.calls k _ _ t113 _ _ y116 true _ ?side1 ?side2 ?side3 ?side4 A2.out).mono ?_); (case side1 => repeat (first | exact (Kd.R_reads' HO115.out).2.2 | (with_reducible refine Kd.C_alloc ?_ _) | (with_reducible refine Kd.C_drewN ?_ _) | (with_reducible refine Kd.C_drew ?_))); (case side2 => exact (Kd.R_reads' HO115.out).2.1); (case side3 => repeat (first | exact (Kd.R_reads' HO118.out).2.2 | (with_reducible refine Kd.C_alloc ?_ _) | (with_reducible refine Kd.C_drewN ?_ _) | (with_reducible refine Kd.C_drew ?_))); (case side4 => exact (Kd.R_reads' HO118.out).2.1); rintro e w' ⟨rfl, ⟨nd, rfl⟩⟩; refine ⟨_, rfl, ?_⟩) | (go_at_call 14; (with_reducible refine (match_Class.calls 4 _ _ t113 t120 _ ?side1 ?side2 A4.out).mono ?_); (case side1 => repeat (first | exact (Kd.R_reads' HO115.out).2.2 | (with_reducible refine Kd.C_alloc ?_ _) | (with_reducible refine Kd.C_drewN ?_ _) | (with_reducible refine Kd.C_drew ?_))); (case side2 => exact (Kd.R_reads' HO115.out).2.1); rintro e w33 ⟨v121, rfl, ho0, hb⟩; have n0_ := Aside0.mk (Kd.R_below (by (with_reducible repeat (first | apply Kd.R_alloc | apply Kd.R_drewN | apply Kd.R_drew)); exact HO112.out) hb); have n1_ := Aside0.mk (Kd.R_below (by (with_reducible repeat (first | apply Kd.R_alloc | apply Kd.R_drewN | apply Kd.R_drew)); exact HO115.out) hb); have n2_ := Aside0.mk (Kd.R_below (by (with_reducible repeat (first | apply Kd.R_alloc | apply Kd.R_drewN | apply Kd.R_drew)); exact HO118.out) hb); have n3_ := Aside0.mk (Kd.R_lower ho0 (below_size (by repeat (first | (with_reducible first | exact HB.out | apply below_alloc | apply pw_below_drewN | apply below_drew1) | exact HB.out)))); have n4_ := Aside0.mk (below_step (by repeat (first | (with_reducible first | exact HB.out | apply below_alloc | apply pw_below_drewN | apply below_drew1) | exact HB.out)) hb); clear HO112; clear HO115; clear HO118; clear HB; have HO112 := n0_; have HO115 := n1_; have HO118 := n2_; have HO122 := n3_; have HB := n4_; clear n0_ n1_ n2_ n3_ n4_; (try clear hb); (try clear hb2); (try clear hk); (try clear hi); (try clear ho0)) | ((with_reducible refine gate_dst (N := 14) rfl ?_); (try (refine gate_guard (by rfl) ?_; dsimp only)); refine Kd.R_lit (Kd.int .i64) _ 3 ?hg (N := 14) ?hd (xs := ([0, 1, 2, 1] : List Int)) (inner := [.int .i64 0, .int .i64 1, .int .i64 2, .int .i64 1]) (ok := fun _ => True) (okp := fun _ => True) ?hr ?hp (fun _ hk => hk) trivial (Below.refl _ _) (Nat.le_refl _) (by simp) ?_; (case hd => rfl); (case hg => rfl); (case hr => first | (go_simp; done) | (go_simp; rfl)); (case hp => exact (Reps.one (show Kd.M (Kd.int .i64) _ _ _ 0 [.int .i64 0] from rfl) (Reps.one (show Kd.M (Kd.int .i64) _ _ _ 1 [.int .i64 1] from rfl) (Reps.one (show Kd.M (Kd.int .i64) _ _ _ 2 [.int .i64 2] from rfl) (Reps.one (show Kd.M (Kd.int .i64) _ _ _ 1 [.int .i64 1] from rfl) (Reps.none _ _)))))); intro v124 w34 ho35 hb hg_ hnew_; clear hg_ hnew_; (first | rw [← Ny123.out] at ho35 | (simp only [Int.reduceToNat] at ho35; rw [← Ny123.out] at ho35)); have n0_ := Aside0.mk (Kd.R_below (by (with_reducible repeat (first | apply Kd.R_alloc | apply Kd.R_drewN | apply Kd.R_drew)); exact HO112.out) hb); have n1_ := Aside0.mk (Kd.R_below (by (with_reducible repeat (first | apply Kd.R_alloc | apply Kd.R_drewN | apply Kd.R_drew)); exact HO115.out) hb); have n2_ := Aside0.mk (Kd.R_below (by (with_reducible repeat (first | apply Kd.R_alloc | apply Kd.R_drewN | apply Kd.R_drew)); exact HO118.out) hb); have n3_ := Aside0.mk (Kd.R_elder' (by (with_reducible repeat (first | apply Kd.R_alloc | apply Kd.R_drewN | apply Kd.R_drew)); exact HO122.out) (Kd.R_base ho35) hb); have n4_ := Aside0.mk (Kd.R_lower (Kd.R_new' ho35 (Kd.R_lt (by (with_reducible repeat (first | apply Kd.R_alloc | apply Kd.R_drewN | apply Kd.R_drew)); exact HO122.out))) (below_size (by repeat (first | (with_reducible first | exact HB.out | apply below_alloc | apply pw_below_drewN | apply below_drew1) | exact HB.out)))); have n5_ := Aside0.mk (below_step (by repeat (first | (with_reducible first | exact HB.out | apply below_alloc | apply pw_below_drewN | apply below_drew1) | exact HB.out)) hb); clear HO112; clear HO115; clear HO118; clear HO122; clear HB; have HO112 := n0_; have HO115 := n1_; have HO118 := n2_; have HO122 := n3_; have HO125 := n4_; have HB := n5_; clear n0_ n1_ n2_ n3_ n4_ n5_; clear hb ho35; obtain ⟨Ao36, co36, eo36⟩ := Kd.R_slice HO122.out; subst eo36; obtain ⟨Ao37, co37, eo37⟩ := Kd.R_slice HO125.out; subst eo37) | (go_at_call 13; (with_reducible refine (oriellaw01_Ints.calls k _ _ t120 _ _ y123 true _ ?side1 ?side2 ?side3 ?side4 A5.out).mono ?_); (case side1 => repeat (first | exact (Kd.R_reads' HO122.out).2.2 | (with_reducible refine Kd.C_alloc ?_ _) | (with_reducible refine Kd.C_drewN ?_ _) | (with_reducible refine Kd.C_drew ?_))); (case side2 => exact (Kd.R_reads' HO122.out).2.1); (case side3 => repeat (first | exact (Kd.R_reads' HO125.out).2.2 | (with_reducible refine Kd.C_alloc ?_ _) | (with_reducible refine Kd.C_drewN ?_ _) | (with_reducible refine Kd.C_drew ?_))); (case side4 => exact (Kd.R_reads' HO125.out).2.1); rintro e w' ⟨rfl, ⟨nd, rfl⟩⟩) | (go_at_call 15; (with_reducible refine (match_Linked.calls k _ _ t113 3 1 false _ ?side1 ?side2 A7.out).mono ?_); (case side1 => repeat (first | exact (Kd.R_reads' HO115.out).2.2 | (with_reducible refine Kd.C_alloc ?_ _) | (with_reducible refine Kd.C_drewN ?_ _) | (with_reducible refine Kd.C_drew ?_))); (case side2 => exact (Kd.R_reads' HO115.out).2.1); rintro e w38 ⟨rfl, hb⟩; have n0_ := Aside0.mk (Kd.R_below (by (with_reducible repeat (first | apply Kd.R_alloc | apply Kd.R_drewN | apply Kd.R_drew)); exact HO112.out) hb); have n1_ := Aside0.mk (Kd.R_below (by (with_reducible repeat (first | apply Kd.R_alloc | apply Kd.R_drewN | apply Kd.R_drew)); exact HO115.out) hb); have n2_ := Aside0.mk (Kd.R_below (by (with_reducible repeat (first | apply Kd.R_alloc | apply Kd.R_drewN | apply Kd.R_drew)); exact HO118.out) hb); have n3_ := Aside0.mk (Kd.R_below (by (with_reducible repeat (first | apply Kd.R_alloc | apply Kd.R_drewN | apply Kd.R_drew)); exact HO122.out) hb); have n4_ := Aside0.mk (Kd.R_below (by (with_reducible repeat (first | apply Kd.R_alloc | apply Kd.R_drewN | apply Kd.R_drew)); exact HO125.out) hb); have n5_ := Aside0.mk (below_step (by repeat (first | (with_reducible first | exact HB.out | apply below_alloc | apply pw_below_drewN | apply below_drew1) | exact HB.out)) hb); clear HO112; clear HO115; clear HO118; clear HO122; clear HO125; clear HB; have HO112 := n0_; have HO115 := n1_; have HO118 := n2_; have HO122 := n3_; have HO125 := n4_; have HB := n5_; clear n0_ n1_ n2_ n3_ n4_ n5_; (try clear hb); (try clear hb2); (try clear hk); (try clear hi)))
        go_ret
        exact ⟨by first | rfl | (simp [errW_none, errW_some] <;> rfl) | (simp [*, errW_none, errW_some] <;> rfl), by repeat (first | (with_reducible first | exact HB.out | apply below_alloc | apply pw_below_drewN | apply below_drew1) | exact HB.out)⟩
    · replace c6 := Bool.eq_false_iff.mpr c6
      subst c6
      have H1 : (some false) = some r := by rw [if_neg (show ¬ (false = true) by decide)] at H; exact H
      clear H
      have H := H1
      clear H1
      obtain rfl := Option.some.inj H
      go_enter Try.func6, Try.ntmps6
      go_wp2_with (first | ((with_reducible refine gate_dst (N := 5) rfl ?_); (try (refine gate_guard (by rfl) ?_; dsimp only)); refine Kd.R_lit k42 _ 42 ?hg (N := 5) ?hd (xs := ([(⟨3, 1⟩ : S42), (⟨1, 3⟩ : S42), (⟨2, 2⟩ : S42)] : List (S42))) (inner := [.int .i64 3, .int .i64 1, .int .i64 1, .int .i64 3, .int .i64 2, .int .i64 2]) (ok := fun _ => True) (okp := fun _ => True) ?hr ?hp (fun _ hk => hk) trivial (Below.refl _ _) (Nat.le_refl _) (by simp) ?_; (case hd => rfl); (case hg => rfl); (case hr => first | (go_simp; done) | (go_simp; rfl)); (case hp => exact (Reps.c2 (show Kd.M k42 _ _ _ (⟨3, 1⟩ : S42) [.int .i64 3, .int .i64 1] from (k42_mkM _ _ _ (⟨3, 1⟩ : S42) )) (Reps.c2 (show Kd.M k42 _ _ _ (⟨1, 3⟩ : S42) [.int .i64 1, .int .i64 3] from (k42_mkM _ _ _ (⟨1, 3⟩ : S42) )) (Reps.c2 (show Kd.M k42 _ _ _ (⟨2, 2⟩ : S42) [.int .i64 2, .int .i64 2] from (k42_mkM _ _ _ (⟨2, 2⟩ : S42) )) (Reps.none _ _))))); intro v111 w39 ho40 hb hg_ hnew_; clear hg_ hnew_; (first | rw [← Ny110.out] at ho40 | (simp only [Int.reduceToNat] at ho40; rw [← Ny110.out] at ho40)); have n0_ := Aside0.mk (Kd.R_lower ho40 (below_size (by repeat (first | (with_reducible first | exact HB.out | apply below_alloc | apply pw_below_drewN | apply below_drew1) | exact HB.out)))); have n1_ := Aside0.mk (below_step (by repeat (first | (with_reducible first | exact HB.out | apply below_alloc | apply pw_below_drewN | apply below_drew1) | exact HB.out)) hb); clear HB; have HO112 := n0_; have HB := n1_; clear n0_ n1_; clear hb ho40; obtain ⟨Ao41, co41, eo41⟩ := Kd.R_slice HO112.out; subst eo41) | ((with_reducible refine gate_callee (f := 12) rfl ?_); refine goesL_ (some 6) rfl rfl Try.func12 (by kernel_rfl) rfl #[.slice Ao41 y110.length co41] rfl (by (try simp only [List.map_toArray, List.map_cons, List.map_nil]); first | done | rfl | (simp only [List.length_drop, List.length_take]; rfl)) ?_; (with_reducible refine (match_Links.calls k _ _ y110 t113 _ ?side1 ?side2 A1.out).mono ?_); (case side1 => repeat (first | exact (Kd.R_reads' HO112.out).2.2 | (with_reducible refine Kd.C_alloc ?_ _) | (with_reducible refine Kd.C_drewN ?_ _) | (with_reducible refine Kd.C_drew ?_))); (case side2 => exact (Kd.R_reads' HO112.out).2.1); rintro e w42 ⟨v114, rfl, ho0, hb⟩; refine ⟨_, rfl, ?_⟩; have n0_ := Aside0.mk (Kd.R_elder' (by (with_reducible repeat (first | apply Kd.R_alloc | apply Kd.R_drewN | apply Kd.R_drew)); exact HO112.out) (Kd.R_base ho0) hb); have n1_ := Aside0.mk (Kd.R_lower (Kd.R_new' ho0 (Kd.R_lt (by (with_reducible repeat (first | apply Kd.R_alloc | apply Kd.R_drewN | apply Kd.R_drew)); exact HO112.out))) (below_size (by repeat (first | (with_reducible first | exact HB.out | apply below_alloc | apply pw_below_drewN | apply below_drew1) | exact HB.out)))); have n2_ := Aside0.mk (below_step (by repeat (first | (with_reducible first | exact HB.out | apply below_alloc | apply pw_below_drewN | apply below_drew1) | exact HB.out)) hb); clear HO112; clear HB; have HO112 := n0_; have HO115 := n1_; have HB := n2_; clear n0_ n1_ n2_; (try clear hb); (try clear hb2); (try clear hk); (try clear hi); (try clear ho0)) | ((with_reducible refine gate_dst (N := 9) rfl ?_); (try (refine gate_guard (by rfl) ?_; dsimp only)); refine Kd.R_lit k42 _ 42 ?hg (N := 9) ?hd (xs := ([(⟨1, 3⟩ : S42)] : List (S42))) (inner := [.int .i64 1, .int .i64 3]) (ok := fun _ => True) (okp := fun _ => True) ?hr ?hp (fun _ hk => hk) trivial (Below.refl _ _) (Nat.le_refl _) (by simp) ?_; (case hd => rfl); (case hg => rfl); (case hr => first | (go_simp; done) | (go_simp; rfl)); (case hp => exact (Reps.c2 (show Kd.M k42 _ _ _ (⟨1, 3⟩ : S42) [.int .i64 1, .int .i64 3] from (k42_mkM _ _ _ (⟨1, 3⟩ : S42) )) (Reps.none _ _))); intro v117 w43 ho44 hb hg_ hnew_; clear hg_ hnew_; (first | rw [← Ny116.out] at ho44 | (simp only [Int.reduceToNat] at ho44; rw [← Ny116.out] at ho44)); have n0_ := Aside0.mk (Kd.R_elder' (by (with_reducible repeat (first | apply Kd.R_alloc | apply Kd.R_drewN | apply Kd.R_drew)); exact HO112.out) (Kd.R_base ho44) hb); have n1_ := Aside0.mk (Kd.R_elder' (by (with_reducible repeat (first | apply Kd.R_alloc | apply Kd.R_drewN | apply Kd.R_drew)); exact HO115.out) (Kd.R_base ho44) hb); have n2_ := Aside0.mk (Kd.R_lower (Kd.R_new' (Kd.R_new' ho44 (Kd.R_lt (by (with_reducible repeat (first | apply Kd.R_alloc | apply Kd.R_drewN | apply Kd.R_drew)); exact HO112.out))) (Kd.R_lt (by (with_reducible repeat (first | apply Kd.R_alloc | apply Kd.R_drewN | apply Kd.R_drew)); exact HO115.out))) (below_size (by repeat (first | (with_reducible first | exact HB.out | apply below_alloc | apply pw_below_drewN | apply below_drew1) | exact HB.out)))); have n3_ := Aside0.mk (below_step (by repeat (first | (with_reducible first | exact HB.out | apply below_alloc | apply pw_below_drewN | apply below_drew1) | exact HB.out)) hb); clear HO112; clear HO115; clear HB; have HO112 := n0_; have HO115 := n1_; have HO118 := n2_; have HB := n3_; clear n0_ n1_ n2_ n3_; clear hb ho44; obtain ⟨Ao45, co45, eo45⟩ := Kd.R_slice HO115.out; subst eo45; obtain ⟨Ao46, co46, eo46⟩ := Kd.R_slice HO118.out; subst eo46) | ((with_reducible refine gate_callee (f := 10) rfl ?_); refine goesL_ (some 10) rfl rfl Try.func10 (by kernel_rfl) rfl #[.slice Ao45 t113.length co45, .slice Ao46 y116.length co46] rfl (by (try simp only [List.map_toArray, List.map_cons, List.map_nil]); first | done | rfl | (simp only [List.length_drop, List.length_take]; rfl)) ?_; (with_reducible refine (orielref12_Pairs.calls k _ _ t113 _ _ y116 true _ ?side1 ?side2 ?side3 ?side4 A2.out).mono ?_); (case side1 => repeat (first | exact (Kd.R_reads' HO115.out).2.2 | (with_reducible refine Kd.C_alloc ?_ _) | (with_reducible refine Kd.C_drewN ?_ _) | (with_reducible refine Kd.C_drew ?_))); (case side2 => exact (Kd.R_reads' HO115.out).2.1); (case side3 => repeat (first | exact (Kd.R_reads' HO118.out).2.2 | (with_reducible refine Kd.C_alloc ?_ _) | (with_reducible refine Kd.C_drewN ?_ _) | (with_reducible refine Kd.C_drew ?_))); (case side4 => exact (Kd.R_reads' HO118.out).2.1); rintro e w' ⟨rfl, ⟨nd, rfl⟩⟩; refine ⟨_, rfl, ?_⟩) | (go_at_call 14; (with_reducible refine (match_Class.calls 4 _ _ t113 t120 _ ?side1 ?side2 A4.out).mono ?_); (case side1 => repeat (first | exact (Kd.R_reads' HO115.out).2.2 | (with_reducible refine Kd.C_alloc ?_ _) | (with_reducible refine Kd.C_drewN ?_ _) | (with_reducible refine Kd.C_drew ?_))); (case side2 => exact (Kd.R_reads' HO115.out).2.1); rintro e w47 ⟨v121, rfl, ho0, hb⟩; have n0_ := Aside0.mk (Kd.R_below (by (with_reducible repeat (first | apply Kd.R_alloc | apply Kd.R_drewN | apply Kd.R_drew)); exact HO112.out) hb); have n1_ := Aside0.mk (Kd.R_below (by (with_reducible repeat (first | apply Kd.R_alloc | apply Kd.R_drewN | apply Kd.R_drew)); exact HO115.out) hb); have n2_ := Aside0.mk (Kd.R_below (by (with_reducible repeat (first | apply Kd.R_alloc | apply Kd.R_drewN | apply Kd.R_drew)); exact HO118.out) hb); have n3_ := Aside0.mk (Kd.R_lower ho0 (below_size (by repeat (first | (with_reducible first | exact HB.out | apply below_alloc | apply pw_below_drewN | apply below_drew1) | exact HB.out)))); have n4_ := Aside0.mk (below_step (by repeat (first | (with_reducible first | exact HB.out | apply below_alloc | apply pw_below_drewN | apply below_drew1) | exact HB.out)) hb); clear HO112; clear HO115; clear HO118; clear HB; have HO112 := n0_; have HO115 := n1_; have HO118 := n2_; have HO122 := n3_; have HB := n4_; clear n0_ n1_ n2_ n3_ n4_; (try clear hb); (try clear hb2); (try clear hk); (try clear hi); (try clear ho0)) | ((with_reducible refine gate_dst (N := 14) rfl ?_); (try (refine gate_guard (by rfl) ?_; dsimp only)); refine Kd.R_lit (Kd.int .i64) _ 3 ?hg (N := 14) ?hd (xs := ([0, 1, 2, 1] : List Int)) (inner := [.int .i64 0, .int .i64 1, .int .i64 2, .int .i64 1]) (ok := fun _ => True) (okp := fun _ => True) ?hr ?hp (fun _ hk => hk) trivial (Below.refl _ _) (Nat.le_refl _) (by simp) ?_; (case hd => rfl); (case hg => rfl); (case hr => first | (go_simp; done) | (go_simp; rfl)); (case hp => exact (Reps.one (show Kd.M (Kd.int .i64) _ _ _ 0 [.int .i64 0] from rfl) (Reps.one (show Kd.M (Kd.int .i64) _ _ _ 1 [.int .i64 1] from rfl) (Reps.one (show Kd.M (Kd.int .i64) _ _ _ 2 [.int .i64 2] from rfl) (Reps.one (show Kd.M (Kd.int .i64) _ _ _ 1 [.int .i64 1] from rfl) (Reps.none _ _)))))); intro v124 w48 ho49 hb hg_ hnew_; clear hg_ hnew_; (first | rw [← Ny123.out] at ho49 | (simp only [Int.reduceToNat] at ho49; rw [← Ny123.out] at ho49)); have n0_ := Aside0.mk (Kd.R_below (by (with_reducible repeat (first | apply Kd.R_alloc | apply Kd.R_drewN | apply Kd.R_drew)); exact HO112.out) hb); have n1_ := Aside0.mk (Kd.R_below (by (with_reducible repeat (first | apply Kd.R_alloc | apply Kd.R_drewN | apply Kd.R_drew)); exact HO115.out) hb); have n2_ := Aside0.mk (Kd.R_below (by (with_reducible repeat (first | apply Kd.R_alloc | apply Kd.R_drewN | apply Kd.R_drew)); exact HO118.out) hb); have n3_ := Aside0.mk (Kd.R_elder' (by (with_reducible repeat (first | apply Kd.R_alloc | apply Kd.R_drewN | apply Kd.R_drew)); exact HO122.out) (Kd.R_base ho49) hb); have n4_ := Aside0.mk (Kd.R_lower (Kd.R_new' ho49 (Kd.R_lt (by (with_reducible repeat (first | apply Kd.R_alloc | apply Kd.R_drewN | apply Kd.R_drew)); exact HO122.out))) (below_size (by repeat (first | (with_reducible first | exact HB.out | apply below_alloc | apply pw_below_drewN | apply below_drew1) | exact HB.out)))); have n5_ := Aside0.mk (below_step (by repeat (first | (with_reducible first | exact HB.out | apply below_alloc | apply pw_below_drewN | apply below_drew1) | exact HB.out)) hb); clear HO112; clear HO115; clear HO118; clear HO122; clear HB; have HO112 := n0_; have HO115 := n1_; have HO118 := n2_; have HO122 := n3_; have HO125 := n4_; have HB := n5_; clear n0_ n1_ n2_ n3_ n4_ n5_; clear hb ho49; obtain ⟨Ao50, co50, eo50⟩ := Kd.R_slice HO122.out; subst eo50; obtain ⟨Ao51, co51, eo51⟩ := Kd.R_slice HO125.out; subst eo51) | (go_at_call 13; (with_reducible refine (oriellaw01_Ints.calls k _ _ t120 _ _ y123 false _ ?side1 ?side2 ?side3 ?side4 A5.out).mono ?_); (case side1 => repeat (first | exact (Kd.R_reads' HO122.out).2.2 | (with_reducible refine Kd.C_alloc ?_ _) | (with_reducible refine Kd.C_drewN ?_ _) | (with_reducible refine Kd.C_drew ?_))); (case side2 => exact (Kd.R_reads' HO122.out).2.1); (case side3 => repeat (first | exact (Kd.R_reads' HO125.out).2.2 | (with_reducible refine Kd.C_alloc ?_ _) | (with_reducible refine Kd.C_drewN ?_ _) | (with_reducible refine Kd.C_drew ?_))); (case side4 => exact (Kd.R_reads' HO125.out).2.1); rintro e w' ⟨rfl, ⟨nd, rfl⟩⟩))
      go_ret
      exact ⟨by first | rfl | (simp [errW_none, errW_some] <;> rfl) | (simp [*, errW_none, errW_some] <;> rfl), by repeat (first | (with_reducible first | exact HB.out | apply below_alloc | apply pw_below_drewN | apply below_drew1) | exact HB.out)⟩
  · replace c3 := Bool.eq_false_iff.mpr c3
    subst c3
    have H1 : (some false) = some r := by rw [if_neg (show ¬ (false = true) by decide)] at H; exact H
    clear H
    have H := H1
    clear H1
    obtain rfl := Option.some.inj H
    go_enter Try.func6, Try.ntmps6
    go_wp2_with (first | ((with_reducible refine gate_dst (N := 5) rfl ?_); (try (refine gate_guard (by rfl) ?_; dsimp only)); refine Kd.R_lit k42 _ 42 ?hg (N := 5) ?hd (xs := ([(⟨3, 1⟩ : S42), (⟨1, 3⟩ : S42), (⟨2, 2⟩ : S42)] : List (S42))) (inner := [.int .i64 3, .int .i64 1, .int .i64 1, .int .i64 3, .int .i64 2, .int .i64 2]) (ok := fun _ => True) (okp := fun _ => True) ?hr ?hp (fun _ hk => hk) trivial (Below.refl _ _) (Nat.le_refl _) (by simp) ?_; (case hd => rfl); (case hg => rfl); (case hr => first | (go_simp; done) | (go_simp; rfl)); (case hp => exact (Reps.c2 (show Kd.M k42 _ _ _ (⟨3, 1⟩ : S42) [.int .i64 3, .int .i64 1] from (k42_mkM _ _ _ (⟨3, 1⟩ : S42) )) (Reps.c2 (show Kd.M k42 _ _ _ (⟨1, 3⟩ : S42) [.int .i64 1, .int .i64 3] from (k42_mkM _ _ _ (⟨1, 3⟩ : S42) )) (Reps.c2 (show Kd.M k42 _ _ _ (⟨2, 2⟩ : S42) [.int .i64 2, .int .i64 2] from (k42_mkM _ _ _ (⟨2, 2⟩ : S42) )) (Reps.none _ _))))); intro v111 w52 ho53 hb hg_ hnew_; clear hg_ hnew_; (first | rw [← Ny110.out] at ho53 | (simp only [Int.reduceToNat] at ho53; rw [← Ny110.out] at ho53)); have n0_ := Aside0.mk (Kd.R_lower ho53 (below_size (by repeat (first | (with_reducible first | exact HB.out | apply below_alloc | apply pw_below_drewN | apply below_drew1) | exact HB.out)))); have n1_ := Aside0.mk (below_step (by repeat (first | (with_reducible first | exact HB.out | apply below_alloc | apply pw_below_drewN | apply below_drew1) | exact HB.out)) hb); clear HB; have HO112 := n0_; have HB := n1_; clear n0_ n1_; clear hb ho53; obtain ⟨Ao54, co54, eo54⟩ := Kd.R_slice HO112.out; subst eo54) | ((with_reducible refine gate_callee (f := 12) rfl ?_); refine goesL_ (some 6) rfl rfl Try.func12 (by kernel_rfl) rfl #[.slice Ao54 y110.length co54] rfl (by (try simp only [List.map_toArray, List.map_cons, List.map_nil]); first | done | rfl | (simp only [List.length_drop, List.length_take]; rfl)) ?_; (with_reducible refine (match_Links.calls k _ _ y110 t113 _ ?side1 ?side2 A1.out).mono ?_); (case side1 => repeat (first | exact (Kd.R_reads' HO112.out).2.2 | (with_reducible refine Kd.C_alloc ?_ _) | (with_reducible refine Kd.C_drewN ?_ _) | (with_reducible refine Kd.C_drew ?_))); (case side2 => exact (Kd.R_reads' HO112.out).2.1); rintro e w55 ⟨v114, rfl, ho0, hb⟩; refine ⟨_, rfl, ?_⟩; have n0_ := Aside0.mk (Kd.R_elder' (by (with_reducible repeat (first | apply Kd.R_alloc | apply Kd.R_drewN | apply Kd.R_drew)); exact HO112.out) (Kd.R_base ho0) hb); have n1_ := Aside0.mk (Kd.R_lower (Kd.R_new' ho0 (Kd.R_lt (by (with_reducible repeat (first | apply Kd.R_alloc | apply Kd.R_drewN | apply Kd.R_drew)); exact HO112.out))) (below_size (by repeat (first | (with_reducible first | exact HB.out | apply below_alloc | apply pw_below_drewN | apply below_drew1) | exact HB.out)))); have n2_ := Aside0.mk (below_step (by repeat (first | (with_reducible first | exact HB.out | apply below_alloc | apply pw_below_drewN | apply below_drew1) | exact HB.out)) hb); clear HO112; clear HB; have HO112 := n0_; have HO115 := n1_; have HB := n2_; clear n0_ n1_ n2_; (try clear hb); (try clear hb2); (try clear hk); (try clear hi); (try clear ho0)) | ((with_reducible refine gate_dst (N := 9) rfl ?_); (try (refine gate_guard (by rfl) ?_; dsimp only)); refine Kd.R_lit k42 _ 42 ?hg (N := 9) ?hd (xs := ([(⟨1, 3⟩ : S42)] : List (S42))) (inner := [.int .i64 1, .int .i64 3]) (ok := fun _ => True) (okp := fun _ => True) ?hr ?hp (fun _ hk => hk) trivial (Below.refl _ _) (Nat.le_refl _) (by simp) ?_; (case hd => rfl); (case hg => rfl); (case hr => first | (go_simp; done) | (go_simp; rfl)); (case hp => exact (Reps.c2 (show Kd.M k42 _ _ _ (⟨1, 3⟩ : S42) [.int .i64 1, .int .i64 3] from (k42_mkM _ _ _ (⟨1, 3⟩ : S42) )) (Reps.none _ _))); intro v117 w56 ho57 hb hg_ hnew_; clear hg_ hnew_; (first | rw [← Ny116.out] at ho57 | (simp only [Int.reduceToNat] at ho57; rw [← Ny116.out] at ho57)); have n0_ := Aside0.mk (Kd.R_elder' (by (with_reducible repeat (first | apply Kd.R_alloc | apply Kd.R_drewN | apply Kd.R_drew)); exact HO112.out) (Kd.R_base ho57) hb); have n1_ := Aside0.mk (Kd.R_elder' (by (with_reducible repeat (first | apply Kd.R_alloc | apply Kd.R_drewN | apply Kd.R_drew)); exact HO115.out) (Kd.R_base ho57) hb); have n2_ := Aside0.mk (Kd.R_lower (Kd.R_new' (Kd.R_new' ho57 (Kd.R_lt (by (with_reducible repeat (first | apply Kd.R_alloc | apply Kd.R_drewN | apply Kd.R_drew)); exact HO112.out))) (Kd.R_lt (by (with_reducible repeat (first | apply Kd.R_alloc | apply Kd.R_drewN | apply Kd.R_drew)); exact HO115.out))) (below_size (by repeat (first | (with_reducible first | exact HB.out | apply below_alloc | apply pw_below_drewN | apply below_drew1) | exact HB.out)))); have n3_ := Aside0.mk (below_step (by repeat (first | (with_reducible first | exact HB.out | apply below_alloc | apply pw_below_drewN | apply below_drew1) | exact HB.out)) hb); clear HO112; clear HO115; clear HB; have HO112 := n0_; have HO115 := n1_; have HO118 := n2_; have HB := n3_; clear n0_ n1_ n2_ n3_; clear hb ho57; obtain ⟨Ao58, co58, eo58⟩ := Kd.R_slice HO115.out; subst eo58; obtain ⟨Ao59, co59, eo59⟩ := Kd.R_slice HO118.out; subst eo59) | ((with_reducible refine gate_callee (f := 10) rfl ?_); refine goesL_ (some 10) rfl rfl Try.func10 (by kernel_rfl) rfl #[.slice Ao58 t113.length co58, .slice Ao59 y116.length co59] rfl (by (try simp only [List.map_toArray, List.map_cons, List.map_nil]); first | done | rfl | (simp only [List.length_drop, List.length_take]; rfl)) ?_; (with_reducible refine (orielref12_Pairs.calls k _ _ t113 _ _ y116 false _ ?side1 ?side2 ?side3 ?side4 A2.out).mono ?_); (case side1 => repeat (first | exact (Kd.R_reads' HO115.out).2.2 | (with_reducible refine Kd.C_alloc ?_ _) | (with_reducible refine Kd.C_drewN ?_ _) | (with_reducible refine Kd.C_drew ?_))); (case side2 => exact (Kd.R_reads' HO115.out).2.1); (case side3 => repeat (first | exact (Kd.R_reads' HO118.out).2.2 | (with_reducible refine Kd.C_alloc ?_ _) | (with_reducible refine Kd.C_drewN ?_ _) | (with_reducible refine Kd.C_drew ?_))); (case side4 => exact (Kd.R_reads' HO118.out).2.1); rintro e w' ⟨rfl, ⟨nd, rfl⟩⟩; refine ⟨_, rfl, ?_⟩))
    go_ret
    exact ⟨by first | rfl | (simp [errW_none, errW_some] <;> rfl) | (simp [*, errW_none, errW_some] <;> rfl), by repeat (first | (with_reducible first | exact HB.out | apply below_alloc | apply pw_below_drewN | apply below_drew1) | exact HB.out)⟩

-- NOT PRINTED: function 7 (match_Match)

-- NOT PRINTED: function 19 (env_Env_With)

-- NOT PRINTED: function 8 (oriellaw11_Made)

/-! ### orielref11_Find: function 21 -/
def orielref11_Find.l0 : Nat → List (S33) → Int → ByteArray → Int → Option (Int)
  | 0, _, _, _, _ => none
  | k + 1, x0, x1, x2, x7 => if x7 ≥ 0 then (if 0 ≤ x7 then (if x7 < (x0.length : Int) then (if ((rd_T33 x0 x7).f0) = x1 then (if ((rd_T33 x0 x7).f1).toList = x2.toList then (some x7) else (orielref11_Find.l0 k x0 x1 x2 (wrap64 (x7 - 1)))) else (orielref11_Find.l0 k x0 x1 x2 (wrap64 (x7 - 1)))) else (none)) else (none)) else (some (-1))
def orielref11_Find.f (k : Nat) (l0 : List (S33)) (a1 : Int) (a2 : ByteArray) : Option (Int) := orielref11_Find.l0 k l0 a1 a2 (wrap64 ((l0.length : Int) - 1))
theorem orielref11_Find.mono_l : ∀ k, (∀ y0 y1 y2 y3, LeO (orielref11_Find.l0 k y0 y1 y2 y3) (orielref11_Find.l0 (k + 1) y0 y1 y2 y3))
  | 0 => fun _ _ _ _ r h => by simp [orielref11_Find.l0] at h
  | k + 1 => by
    have ih0 := orielref11_Find.mono_l k
    · intro y0 y1 y2 y3
      unfold orielref11_Find.l0
      repeat' first
      | (with_reducible exact ih0 _ _ _ _)
      | (with_reducible exact LeO.refl _)
      | (with_reducible exact LeO.none _)
      | (with_reducible refine LeO.ite ?_ ?_)
      | (with_reducible refine LeO.bind ?_ (fun _ => ?_))
      | exact ih0 _ _ _ _
      | exact LeO.none _
      | refine LeO.ite ?_ ?_
      | refine LeO.bind ?_ (fun _ => ?_)
theorem orielref11_Find.mono : ∀ a0 a1 a2 k, LeO (orielref11_Find.f k a0 a1 a2) (orielref11_Find.f (k + 1) a0 a1 a2) := by
  intro a0 a1 a2 k
  have ih0 := orielref11_Find.mono_l k
  unfold orielref11_Find.f
  repeat' first
      | (with_reducible exact ih0 _ _ _ _)
      | (with_reducible exact LeO.refl _)
      | (with_reducible exact LeO.none _)
      | (with_reducible refine LeO.ite ?_ ?_)
      | (with_reducible refine LeO.bind ?_ (fun _ => ?_))
      | exact ih0 _ _ _ _
      | exact LeO.none _
      | refine LeO.ite ?_ ?_
      | refine LeO.bind ?_ (fun _ => ?_)
set_option maxHeartbeats 8000000 in
set_option maxRecDepth 100000 in
theorem orielref11_Find.calls (k : Nat) (A0 : Option Addr) (c0 : Nat) (l0 : List (S33)) (a1 : Int) (a2 : ByteArray) (r : Int) (w : World) (hr0 : Kd.C k33 w A0 l0.length l0) (hc0 : l0.length ≤ c0) (h : orielref11_Find.f k l0 a1 a2 = some r) :
    Calls Try.prog 21 #[.slice A0 l0.length c0, .int .i64 a1, .string a2] w fun e w' => e = .returned (.int .i64 r) ∧ Drawn0 w w' := by
  have HR0 := Aside0.mk hr0
  have HC0 := Aside0.mk hc0
  clear hr0 hc0
  have H : (orielref11_Find.l0 k l0 a1 a2 (wrap64 ((l0.length : Int) - 1))) = some r := h
  clear h
  have H' := Aside0.mk H
  clear H
  go_enter Try.func21, Try.ntmps21
  go_wp2
  go_loopg [7] k (fun kq v7 w' => ∃ (x7_1 : Int), v7 = .int .i64 x7_1 ∧ Aside0 (orielref11_Find.l0 kq l0 a1 a2 x7_1 = some r) ∧ Aside0 (kq ≤ k) ∧ Drawn0 w w')
  case atStart => exact ⟨(wrap64 ((l0.length : Int) - 1)), (by first | rfl | (simp; done) | (simp [*]; done)), H', ⟨Nat.le_refl _⟩, by repeat (first | exact Drawn0.refl _ | apply Drawn0.step)⟩
  case round =>
    clear H'
    try clear c2
    try clear p2
    obtain ⟨x7_1, rfl, HA, HK1, ⟨m1, rfl⟩⟩ := hrel
    cases gk with
    | zero => exact absurd HA.out (by simp [orielref11_Find.l0])
    | succ k1 =>
      have H := HA.out
      clear HA
      simp only [orielref11_Find.l0] at H
      by_cases c4 : x7_1 ≥ 0
      · rw [if_pos c4] at H
        have c4b0 : decide (0 ≤ x7_1) = true := decide_eq_true c4
        clear c4
        by_cases c5 : 0 ≤ x7_1
        · rw [if_pos c5] at H
          have c5b0 : decide (0 ≤ x7_1) = true := decide_eq_true c5
          clear c5
          by_cases c6 : x7_1 < (l0.length : Int)
          · rw [if_pos c6] at H
            have c6b0 : decide (x7_1 < (l0.length : Int)) = true := decide_eq_true c6
            clear c6
            by_cases c7 : ((rd_T33 l0 x7_1).f0) = a1
            · rw [if_pos c7] at H
              have c7b0 : (((rd_T33 l0 x7_1).f0) == a1) = true := beq_iff_eq.mpr c7
              have c7b1 : (((rd_T33 l0 x7_1).f0) != a1) = false := bne_eq_false_iff_eq.mpr c7
              clear c7
              by_cases c8 : ((rd_T33 l0 x7_1).f1).toList = a2.toList
              · rw [if_pos c8] at H
                have c8b0 : (((rd_T33 l0 x7_1).f1).toList == a2.toList) = true := beq_iff_eq.mpr c8
                have c8b1 : (((rd_T33 l0 x7_1).f1).toList != a2.toList) = false := bne_eq_false_iff_eq.mpr c8
                clear c8
                obtain rfl := Option.some.inj H
                have p129 : 0 ≤ (x7_1 : Int) := of_decide_eq_true (by first | (with_reducible assumption) | assumption)
                have q129 : x7_1 < (l0.length : Int) := of_decide_eq_true (by first | (with_reducible assumption) | assumption)
                obtain ⟨ad129, A129_4, c129_4, A129_5, c129_5, e129, hx129_0, hx129_1, hx129_2, hx129_3, hx129_4, hx129_5, hl129_4, hi129_4, hl129_5, hi129_5⟩ := at_T33 HR0.out x7_1 p129 q129
                cases e129
                have HR129_4 := Aside0.mk hi129_4
                have HC129_4 := Aside0.mk hl129_4
                clear hi129_4 hl129_4
                have HR129_5 := Aside0.mk hi129_5
                have HC129_5 := Aside0.mk hl129_5
                clear hi129_5 hl129_5
                replace p129 := eq_true p129
                replace q129 := eq_true q129
                have p130 : 0 ≤ (x7_1 : Int) := of_decide_eq_true (by first | (with_reducible assumption) | assumption)
                have q130 : x7_1 < (l0.length : Int) := of_decide_eq_true (by first | (with_reducible assumption) | assumption)
                obtain ⟨ad130, A130_4, c130_4, A130_5, c130_5, e130, hx130_0, hx130_1, hx130_2, hx130_3, hx130_4, hx130_5, hl130_4, hi130_4, hl130_5, hi130_5⟩ := at_T33 HR0.out x7_1 p130 q130
                obtain rfl : ad129 = ad130 := (by injection e130)
                have HR130_4 := Aside0.mk hi130_4
                have HC130_4 := Aside0.mk hl130_4
                clear hi130_4 hl130_4
                have HR130_5 := Aside0.mk hi130_5
                have HC130_5 := Aside0.mk hl130_5
                clear hi130_5 hl130_5
                replace p130 := eq_true p130
                replace q130 := eq_true q130
                have ea_ := Option.some.inj (hx129_4.symm.trans hx130_4)
                injection ea_ with ea_ en_ ec_
                subst ea_
                subst ec_
                clear en_
                have ea_ := Option.some.inj (hx129_5.symm.trans hx130_5)
                injection ea_ with ea_ en_ ec_
                subst ea_
                subst ec_
                clear en_
                go_wp2
                go_ret
                exact ⟨by first | rfl | (simp; done) | (simp [*]; done), by repeat (first | exact Drawn0.refl _ | apply Drawn0.step)⟩
              · rw [if_neg c8] at H
                have c8b0 : (((rd_T33 l0 x7_1).f1).toList == a2.toList) = false := beq_eq_false_iff_ne.mpr c8
                have c8b1 : (((rd_T33 l0 x7_1).f1).toList != a2.toList) = true := bne_iff_ne.mpr c8
                have H' := Aside0.mk H
                clear H
                have p129 : 0 ≤ (x7_1 : Int) := of_decide_eq_true (by first | (with_reducible assumption) | assumption)
                have q129 : x7_1 < (l0.length : Int) := of_decide_eq_true (by first | (with_reducible assumption) | assumption)
                obtain ⟨ad129, A129_4, c129_4, A129_5, c129_5, e129, hx129_0, hx129_1, hx129_2, hx129_3, hx129_4, hx129_5, hl129_4, hi129_4, hl129_5, hi129_5⟩ := at_T33 HR0.out x7_1 p129 q129
                cases e129
                have HR129_4 := Aside0.mk hi129_4
                have HC129_4 := Aside0.mk hl129_4
                clear hi129_4 hl129_4
                have HR129_5 := Aside0.mk hi129_5
                have HC129_5 := Aside0.mk hl129_5
                clear hi129_5 hl129_5
                replace p129 := eq_true p129
                replace q129 := eq_true q129
                have p130 : 0 ≤ (x7_1 : Int) := of_decide_eq_true (by first | (with_reducible assumption) | assumption)
                have q130 : x7_1 < (l0.length : Int) := of_decide_eq_true (by first | (with_reducible assumption) | assumption)
                obtain ⟨ad130, A130_4, c130_4, A130_5, c130_5, e130, hx130_0, hx130_1, hx130_2, hx130_3, hx130_4, hx130_5, hl130_4, hi130_4, hl130_5, hi130_5⟩ := at_T33 HR0.out x7_1 p130 q130
                obtain rfl : ad129 = ad130 := (by injection e130)
                have HR130_4 := Aside0.mk hi130_4
                have HC130_4 := Aside0.mk hl130_4
                clear hi130_4 hl130_4
                have HR130_5 := Aside0.mk hi130_5
                have HC130_5 := Aside0.mk hl130_5
                clear hi130_5 hl130_5
                replace p130 := eq_true p130
                replace q130 := eq_true q130
                have ea_ := Option.some.inj (hx129_4.symm.trans hx130_4)
                injection ea_ with ea_ en_ ec_
                subst ea_
                subst ec_
                clear en_
                have ea_ := Option.some.inj (hx129_5.symm.trans hx130_5)
                injection ea_ with ea_ en_ ec_
                subst ea_
                subst ec_
                clear en_
                go_wp2
                go_roundg k1
                case measure => have := HK1.out; omega
                case rel => exact ⟨(wrap64 (x7_1 - 1)), (by first | rfl | (simp; done) | (simp [*]; done)), H', ⟨by have := HK1.out; omega⟩, by repeat (first | exact Drawn0.refl _ | apply Drawn0.step)⟩
            · rw [if_neg c7] at H
              have c7b0 : (((rd_T33 l0 x7_1).f0) == a1) = false := beq_eq_false_iff_ne.mpr c7
              have c7b1 : (((rd_T33 l0 x7_1).f0) != a1) = true := bne_iff_ne.mpr c7
              have H' := Aside0.mk H
              clear H
              have p129 : 0 ≤ (x7_1 : Int) := of_decide_eq_true (by first | (with_reducible assumption) | assumption)
              have q129 : x7_1 < (l0.length : Int) := of_decide_eq_true (by first | (with_reducible assumption) | assumption)
              obtain ⟨ad129, A129_4, c129_4, A129_5, c129_5, e129, hx129_0, hx129_1, hx129_2, hx129_3, hx129_4, hx129_5, hl129_4, hi129_4, hl129_5, hi129_5⟩ := at_T33 HR0.out x7_1 p129 q129
              cases e129
              have HR129_4 := Aside0.mk hi129_4
              have HC129_4 := Aside0.mk hl129_4
              clear hi129_4 hl129_4
              have HR129_5 := Aside0.mk hi129_5
              have HC129_5 := Aside0.mk hl129_5
              clear hi129_5 hl129_5
              replace p129 := eq_true p129
              replace q129 := eq_true q129
              go_wp2
              go_roundg k1
              case measure => have := HK1.out; omega
              case rel => exact ⟨(wrap64 (x7_1 - 1)), (by first | rfl | (simp; done) | (simp [*]; done)), H', ⟨by have := HK1.out; omega⟩, by repeat (first | exact Drawn0.refl _ | apply Drawn0.step)⟩
          · rw [if_neg c6] at H
            exact absurd H (by simp)
        · rw [if_neg c5] at H
          exact absurd H (by simp)
      · rw [if_neg c4] at H
        have c4b0 : decide (0 ≤ x7_1) = false := decide_eq_false c4
        clear c4
        obtain rfl := Option.some.inj H
        go_wp2
        go_ret
        exact ⟨by first | rfl | (simp; done) | (simp [*]; done), by repeat (first | exact Drawn0.refl _ | apply Drawn0.step)⟩

end Go.Proofs.Ytfmbfnjlennfoaa.QN
