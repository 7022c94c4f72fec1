-- Laid by this claim's own program (mprint.py in the repo).
import Derived.Test.YthgjieigpfcekaaQGx0
import Derived.Test.YthgjieigpfcekaaQGx3
import Derived.Test.YthgjieigpfcekaaQGx4
import Derived.Test.YthgjieigpfcekaaQGx5
namespace Go.Proofs.Ythgjieigpfcekaa.QG
open Go.RowKit Go.Proofs.YthgjieigpfcekaaW.PrintWords Go.Proofs.YthgjieigpfcekaaW.PrintLast Go.Proofs.YthgjieigpfcekaaW.PrintMore
attribute [local go_sem] max2_int min2_int max_two min_two max_three min_three max_four min_four   -- for this text's walks alone
set_option linter.unusedVariables false
set_option linter.unusedSimpArgs false

/-! ### graph_Carry: function 66 -/
open Go.Maps in
/-- A map[int]int of the call's own, block b, of at most n entries: it is F. -/
def MI (w : World) (b n : Nat) (F : Int → Option Int) : Prop := ∃ D : DataW Unit, w.ownsMap Try.prog 3 (plainElem Try.prog 3) b n D ∧ IsMap D ∧ ∀ i : Int, D.atKey (.int .i64 i) (.lit (.int .i64 0)) = .lit (.int .i64 ((F i).getD 0)) ∧ Maps.has D (.int .i64 i) = (F i).isSome
theorem mi_zero (w : World) : (zeroValue 3).run Try.prog w = .ok (.int .i64 0) w := by kernel_rfl
theorem mi_made (w : World) : MI (w.alloc (.map #[] 0)) w.heap.size 0 (fun _ => none) :=
  ⟨.map [], World.ownsMap_made w _ _ _, Maps.isMap_empty, fun i => ⟨rfl, rfl⟩⟩
theorem mi_mono {w : World} {b n n' : Nat} {F : Int → Option Int} (h : MI w b n F) (hn : n ≤ n') : MI w b n' F := by
  obtain ⟨D, h1, h2, h3⟩ := h
  exact ⟨D, h1.mono hn, h2, h3⟩
theorem mi_lt {w : World} {b n : Nat} {F : Int → Option Int} (h : MI w b n F) : b < w.heap.size := by
  obtain ⟨D, h1, _⟩ := h
  exact h1.lt
theorem mi_kept {w w' : World} {b n : Nat} {F : Int → Option Int} {row : Option Nat} (h : MI w b n F) (hg : w.grownBy w' row) (hne : some b ≠ row) : MI w' b n F := by
  obtain ⟨D, h1, h2, h3⟩ := h
  exact ⟨D, h1.kept hg hne, h2, h3⟩
theorem mi_below {w w' : World} {b n : Nat} {F : Int → Option Int} (h : MI w b n F) (hb : Below w.heap.size w w') : MI w' b n F := mi_kept h (grown_of_below hb none) (by simp)
set_option maxRecDepth 100000 in
theorem mi_look {w : World} {b n : Nat} {F : Int → Option Int} (h : MI w b n F) (i : Int) (hi : okI i = true) : (Instr.lookup 101 (.map (some b)) (.int .i64 i) true).run Try.prog w = .ok (.tuple #[.int .i64 ((F i).getD 0), .bool (F i).isSome]) w := by
  obtain ⟨D, h1, _, h3⟩ := h
  obtain ⟨v, ps, hrun, hv⟩ := h1.look_ok mb_keyed Try.underlying101 (mi_zero w) (plainElem_int Try.underlying3 (by decide)) (Maps.keyOf_int_mk Try.underlying3 hi)
  obtain ⟨x, rfl, hx, _⟩ := plainElem_int_inv Try.underlying3 hv
  rw [(h3 i).1] at hx
  simp only [Prod.mk.injEq] at hx
  have h4 : (F i).getD 0 = x := by
    have := hx.1
    injection this with this
    injection this
  rw [h4, ← (h3 i).2]
  exact hrun
set_option maxRecDepth 100000 in
theorem mi_look1 {w : World} {b n : Nat} {F : Int → Option Int} (h : MI w b n F) (i : Int) (hi : okI i = true) : (Instr.lookup 101 (.map (some b)) (.int .i64 i) false).run Try.prog w = .ok (.int .i64 ((F i).getD 0)) w := by
  obtain ⟨D, h1, _, h3⟩ := h
  obtain ⟨c, hrun, hv, _⟩ := h1.lookup_int mb_keyed Try.underlying101 Try.underlying3 (mi_zero w) (Maps.keyOf_int_mk Try.underlying3 hi)
  rw [(h3 i).1] at hv
  have h4 : (F i).getD 0 = c := by
    injection hv with this
    injection this
  rw [h4]
  exact hrun
def mput (F : Int → Option Int) (i v : Int) : Int → Option Int := fun j => if j = i then some v else F j
set_option maxRecDepth 100000 in
theorem mi_put {w : World} {b n : Nat} {F : Int → Option Int} (h : MI w b n F) (hn : n < maxLen) (i v : Int) (hi : okI i = true) (hv : okI v = true) :
    ∃ w', (Instr.mapUpdate 101 (.map (some b)) (.int .i64 i) (.int .i64 v)).run Try.prog w = .ok () w' ∧ MI w' b (n + 1) (mput F i v) ∧ w.grownBy w' (some b) := by
  obtain ⟨D, h1, h2, h3⟩ := h
  obtain ⟨w', hrun, ho, hg⟩ := h1.update mb_keyed Try.underlying101 hn (Maps.keyOf_int_mk Try.underlying3 hi) (plainElem_int Try.underlying3 hv)
  refine ⟨w', hrun, ⟨_, ho, h2.put _ _, fun j => ?_⟩, hg⟩
  unfold mput
  by_cases e : j = i
  · subst e
    rw [if_pos rfl, Maps.atKey_put_same h2 (by first | exact trivial | simp [WideAt.IsKeyLit] | decide), Maps.has_put_same h2 (by first | exact trivial | simp [WideAt.IsKeyLit] | decide)]
    exact ⟨rfl, rfl⟩
  · rw [if_neg e, Maps.atKey_put_other (by intro h; injection h with _ h; exact e h), Maps.has_put_other (by intro h; injection h with _ h; exact e h)]
    exact h3 j
/-- What a store into the map makes of the world. -/
noncomputable def mapPutI (w : World) (b : Nat) (i v : Int) : World := match (Instr.mapUpdate 101 (.map (some b)) (.int .i64 i) (.int .i64 v)).run Try.prog w with
  | .ok _ w' => w'
  | _ => w
theorem mi_run {w : World} {b n : Nat} {F : Int → Option Int} (h : MI w b n F) (hn : n < maxLen) (i v : Int) (hi : okI i = true) (hv : okI v = true) :
    (Instr.mapUpdate 101 (.map (some b)) (.int .i64 i) (.int .i64 v)).run Try.prog w = .ok () (mapPutI w b i v) ∧ MI (mapPutI w b i v) b (n + 1) (mput F i v) ∧ w.grownBy (mapPutI w b i v) (some b) := by
  obtain ⟨w', hrun, h1, h2⟩ := mi_put h hn i v hi hv
  have e : mapPutI w b i v = w' := by unfold mapPutI; rw [hrun]
  rw [e]
  exact ⟨hrun, h1, h2⟩
/-- The state of rounds that fill a map of the call's own, block bm: what was made lies where it lay; the map is F, of at most n entries. -/
structure MapIs (w : World) (bm : Nat) (ks : List (Nat × Obj)) (n : Nat) (F : Int → Option Int) (wr : World) : Prop where
  below : Below w.heap.size w wr
  base : w.heap.size ≤ bm
  kept : ∀ p ∈ ks, p.1 ≠ bm ∧ wr.heap[p.1]? = some p.2
  map : MI wr bm n F
theorem mj_alloc {w : World} {bm n : Nat} {ks : List (Nat × Obj)} {F : Int → Option Int} {wr : World} (h : MapIs w bm ks n F wr) (o : Obj) : MapIs w bm ks n F (wr.alloc o) :=
  ⟨h.below.alloc h.below.size o, h.base, fun p hp => ⟨(h.kept p hp).1, blk_alloc (h.kept p hp).2 o⟩, mi_below h.map (below_alloc (Below.refl _ _) o)⟩
theorem mj_more {w : World} {bm n : Nat} {ks : List (Nat × Obj)} {F : Int → Option Int} {wr : World} (h : MapIs w bm ks n F wr) (o : Obj) : MapIs w bm ((wr.heap.size, o) :: ks) n F (wr.alloc o) := by
  have h1 := mj_alloc h o
  refine ⟨h1.below, h1.base, fun p hp => ?_, h1.map⟩
  rcases List.mem_cons.1 hp with rfl | hp
  · have := mi_lt h.map
    exact ⟨by simp; omega, blk_new wr o⟩
  · exact h1.kept p hp
theorem mj_drewN {w : World} {bm k : Nat} {ks : List (Nat × Obj)} {F : Int → Option Int} {wr : World} (h : MapIs w bm ks k F wr) (n : Nat) : MapIs w bm ks k F (wr.drewN n) :=
  ⟨pw_below_drewN h.below n, h.base, h.kept, mi_below h.map (pw_below_drewN (Below.refl _ _) n)⟩
theorem mj_drew {w : World} {bm k : Nat} {ks : List (Nat × Obj)} {F : Int → Option Int} {wr : World} (h : MapIs w bm ks k F wr) : MapIs w bm ks k F wr.drew :=
  ⟨below_drew h.below, h.base, h.kept, mi_below h.map (below_drew (Below.refl _ _))⟩
theorem mj_put {w : World} {bm n : Nat} {ks : List (Nat × Obj)} {F : Int → Option Int} {wr : World} (h : MapIs w bm ks n F wr) (i v : Int) (hi : okI i = true) (hv : okI v = true) (hn : n < maxLen) :
    (Instr.mapUpdate 101 (.map (some bm)) (.int .i64 i) (.int .i64 v)).run Try.prog wr = .ok () (mapPutI wr bm i v) ∧ MapIs w bm ks (n + 1) (mput F i v) (mapPutI wr bm i v) ∧ wr.grownBy (mapPutI wr bm i v) (some bm) := by
  obtain ⟨h1, h2, h3⟩ := mi_run h.map hn i v hi hv
  have hb := h.base
  refine ⟨h1, ⟨⟨h3.os.trans h.below.os, h3.tape.trans h.below.tape, h3.output.trans h.below.output, Nat.le_trans h.below.size h3.size, fun k hk => ?_⟩, h.base, fun p hp => ?_, h2⟩, h3⟩
  · exact (h3.block k (Nat.lt_of_lt_of_le hk h.below.size) (by simp; omega)).trans (h.below.block k hk)
  · obtain ⟨ha, hc⟩ := h.kept p hp
    exact ⟨ha, (h3.block p.1 (blk_lt hc) (by simp; exact ha)).trans hc⟩
theorem mj_below {w : World} {bm n : Nat} {ks : List (Nat × Obj)} {F : Int → Option Int} {wr w' : World} (h : MapIs w bm ks n F wr) (hb : Below wr.heap.size wr w') : MapIs w bm ks n F w' :=
  ⟨below_then h.below h.below.size hb, h.base, fun p hp => ⟨(h.kept p hp).1, (hb.block p.1 (blk_lt (h.kept p hp).2)).trans (h.kept p hp).2⟩, mi_below h.map hb⟩

theorem fits_true {k : Nat} {E V M : List Int} {L : List S34} (h : graph_fits.f k E L V M = some true) : M.length = E.length ∧ M.all okI = true ∧ M.length ≤ 16777216 ∧ fitGo E M M 0 [] = true ∧ L.any (fitP M) = false := by
  unfold graph_fits.f at h
  by_cases h1 : M.length = E.length
  · rw [if_pos h1] at h
    by_cases h2 : M.all okI = true ∧ M.length ≤ 16777216
    · rw [if_pos h2] at h
      have h := Option.some.inj h
      cases h3 : fitGo E M M 0 [] with
      | true =>
        rw [h3, if_pos rfl] at h
        exact ⟨h1, h2.1, h2.2, rfl, by simpa using h⟩
      | false =>
        rw [h3, if_neg (by simp)] at h
        cases h
    · rw [if_neg h2] at h
      cases h
  · rw [if_neg h1] at h
    cases Option.some.inj h
theorem rd_cons (x : Int) (r : List Int) (j : Nat) : rd (x :: r) ((j + 1 : Nat) : Int) = rd r (j : Int) := rfl
theorem rd_zero (x : Int) (r : List Int) : rd (x :: r) ((0 : Nat) : Int) = x := rfl
theorem fitGo_at (E M : List Int) : ∀ (r : List Int) (i : Int) (S : List Int), fitGo E M r i S = true → ∀ j : Nat, j < r.length → 0 ≤ rd r (j : Int) → inB (rd E (i + (j : Int))) M.length = true ∧ ¬ rd M (rd E (i + (j : Int))) < 0
  | [], _, _, _, j, hj, _ => absurd hj (Nat.not_lt_zero _)
  | x :: r, i, S, h, j, hj, h0 => by
    rw [fitGo] at h
    cases hb : fitBad E M i x S with
    | true => rw [hb, if_pos rfl] at h; cases h
    | false =>
      rw [hb, if_neg (by simp)] at h
      match j, hj, h0 with
      | 0, _, h0 =>
        rw [rd_zero] at h0
        have hx : -1 < x := by omega
        unfold fitBad at hb
        rw [decide_eq_true hx] at hb
        simp only [Bool.true_and, Bool.or_eq_false_iff] at hb
        obtain ⟨_, ⟨_, h2⟩, h3⟩ := hb
        rw [show i + ((0 : Nat) : Int) = i by omega]
        exact ⟨by simpa using h2, of_decide_eq_false h3⟩
      | j + 1, hj, h0 =>
        rw [rd_cons] at h0
        have := fitGo_at E M r (i + 1) (x :: S) h j (by simpa using hj) h0
        rw [show i + ((j + 1 : Nat) : Int) = i + 1 + (j : Int) by omega]
        exact this
theorem fitP_at (M : List Int) (L : List S34) (h : L.any (fitP M) = false) (j : Nat) (hj : j < L.length) : inB (rd_T34 L (j : Int)).f0 M.length = true ∧ inB (rd_T34 L (j : Int)).f1 M.length = true := by
  have hf : fitP M (rd_T34 L (j : Int)) = false := by
    cases hq : fitP M (rd_T34 L (j : Int)) with
    | false => rfl
    | true => rw [(any_iff _ L).2 ⟨j, hj, hq⟩] at h; cases h
  unfold fitP at hf
  simp only [Bool.or_eq_false_iff, Bool.not_eq_false'] at hf
  exact ⟨hf.1.1.1, hf.1.1.2⟩
def toF (E M : List Int) : List Int → Int → (Int → Option Int) → (Int → Option Int)
  | [], _, F => F
  | n :: r, i, F => toF E M r (i + 1) (if 0 ≤ n then mput F n (rd M (rd E i)) else F)
def mostF : List Int → Int → Int
  | [], a => a
  | n :: r, a => mostF r (if 0 ≤ n then max a n else a)
def edgeL (F : Int → Option Int) (n : Nat) : List Int := (List.range n).map fun (i : Nat) => (F (i : Int)).getD (-1)
theorem edgeL_succ (F : Int → Option Int) (n : Nat) : edgeL F (n + 1) = edgeL F n ++ [(F (n : Int)).getD (-1)] := by
  unfold edgeL
  rw [List.range_succ, List.map_append]
  rfl
theorem edgeL_len (F : Int → Option Int) (n : Nat) : (edgeL F n).length = n := by simp [edgeL]
def carL (M : List Int) (L : List S34) : List S34 := L.map fun p => ⟨rd M p.f0, rd M p.f1⟩
theorem carL_snoc (M : List Int) (L : List S34) (j : Nat) (h : j < L.length) : carL M (L.take (j + 1)) = carL M (L.take j) ++ [⟨rd M (rd_T34 L (j : Int)).f0, rd M (rd_T34 L (j : Int)).f1⟩] := by
  have r0 : L[j]? = some (rd_T34 L (j : Int)) := by
    show _ = some (L.getD j _)
    rw [List.getD_eq_getElem?_getD, List.getElem?_eq_getElem h]
    rfl
  unfold carL
  rw [List.take_add_one, r0, List.map_append]
  rfl
def graph_Carry.f (k : Nat) (E : List Int) (L : List S34) (V : List Int) (M : List Int) : Option (List Int × List S34 × Bool) :=
  (graph_fits.f k E L V M).bind fun b => if b = true then (if L.length ≤ 1000000 then (if mostF M (-1) ≥ 16777216 then some ([], [], false) else (match_Links.f k (carL M L)).bind fun r => some (edgeL (toF E M M 0 fun _ => none) (mostF M (-1) + 1).toNat, r, true)) else none) else some ([], [], false)
theorem graph_Carry.mono : ∀ a0 a1 a2 a3 k, LeO (graph_Carry.f k a0 a1 a2 a3) (graph_Carry.f (k + 1) a0 a1 a2 a3) := fun _ _ _ _ _ => LeO.refl _
theorem mostF_mono : ∀ (r : List Int) (a : Int), a ≤ mostF r a
  | [], a => Int.le_refl _
  | n :: r, a => by
    rw [mostF]
    refine Int.le_trans ?_ (mostF_mono r _)
    split <;> omega
theorem okI_iff (i : Int) : okI i = true ↔ -9223372036854775808 ≤ i ∧ i ≤ 9223372036854775807 := by
  have a : IntKind.i64.min = -9223372036854775808 := by decide
  have b : IntKind.i64.max = 9223372036854775807 := by decide
  simp [okI, Lit.wf, a, b]
theorem carry_tok (w : World) (base : Nat) (ok : Nat → Prop) (a b : Int) : k34.M w base ok ⟨a, b⟩ [.int .i64 a, .int .i64 b] := k34_mkM w base ok ⟨a, b⟩
theorem carry_full : (Try.prog.info? 34).map (fun i => (i.zero, i.size, i.bytes)) = some (some (.agg #[.int .i64 0, .int .i64 0]), 2, 16) := by kernel_rfl
set_option maxHeartbeats 4000000 in
set_option maxRecDepth 100000 in
theorem graph_Carry.calls (k : Nat) (A0_0 : Option Addr) (c0_0 : Nat) (l0_0 : List Int) (A0_1 : Option Addr) (c0_1 : Nat) (l0_1 : List S34) (A0_2 : Option Addr) (c0_2 : Nat) (l0_2 : List Int) (A1 : Option Addr) (c1 : Nat) (l1 : List Int) (r1 : List Int) (r2 : List S34) (r3 : Bool) (w : World)
    (hr0_0 : Kd.C (Kd.int .i64) w A0_0 l0_0.length l0_0) (hc0_0 : l0_0.length ≤ c0_0) (hr0_1 : Kd.C k34 w A0_1 l0_1.length l0_1) (hc0_1 : l0_1.length ≤ c0_1) (hr0_2 : Kd.C (Kd.int .i64) w A0_2 l0_2.length l0_2) (hc0_2 : l0_2.length ≤ c0_2) (hr1 : Kd.C (Kd.int .i64) w A1 l1.length l1) (hc1 : l1.length ≤ c1) (h : graph_Carry.f k l0_0 l0_1 l0_2 l1 = some (r1, r2, r3)) :
    Calls Try.prog 66 #[.agg #[.slice A0_0 l0_0.length c0_0, .slice A0_1 l0_1.length c0_1, .slice A0_2 l0_2.length c0_2], .slice A1 l1.length c1] w fun e w' => ∃ v0_ v1_ : Value, e = .returned (.tuple #[v0_, v1_, .bool r3]) ∧ Kd.R (Kd.int .i64) 3 w' w.heap.size (fun _ => True) v0_ r1 ∧ Kd.R k34 34 w' w.heap.size (fun _ => True) v1_ r2 ∧ Below w.heap.size w w' := by
  have hu51 := Try.underlying51
  have hu34 := Try.underlying34
  have hu22 := Try.underlying22
  have hu101 := Try.underlying101
  have HC0 := Aside0.mk hr0_0
  have HC1 := Aside0.mk hr0_1
  have HC3 := Aside0.mk hr1
  have hmx1 := Kd.C_max hr1
  unfold graph_Carry.f at h
  obtain ⟨b, hfit, h⟩ := Option.bind_eq_some_iff.mp h
  obtain ⟨W0, hW0⟩ : ∃ W0, w.alloc (.cells #[.slice A0_0 l0_0.length c0_0, .slice A0_1 l0_1.length c0_1, .slice A0_2 l0_2.length c0_2] 51) = W0 := ⟨_, rfl⟩
  have hbW0 : Below w.heap.size w W0 := by rw [← hW0]; exact below_alloc (Below.refl _ _) _
  have HF := Aside0.mk (graph_fits.calls k A0_0 c0_0 l0_0 A0_1 c0_1 l0_1 A0_2 c0_2 l0_2 A1 c1 l1 b W0 (Kd.C_below hr0_0 hbW0) hc0_0 (Kd.C_below hr0_1 hbW0) hc0_1 (Kd.C_below hr0_2 hbW0) hc0_2 (Kd.C_below hr1 hbW0) hc1 hfit)
  have hblk : W0.heap[w.heap.size]? = some (.cells #[.slice A0_0 l0_0.length c0_0, .slice A0_1 l0_1.length c0_1, .slice A0_2 l0_2.length c0_2] 51 (0, 0)) := by rw [← hW0]; exact blk_new w _
  have HBLK := Aside0.mk hblk
  have HBW0 := Aside0.mk hbW0
  have HW0 := Lib.hid hW0
  have q0 : W0.cell? ⟨w.heap.size, 0, none⟩ = some (.slice A0_0 l0_0.length c0_0) := by simp [World.cell?, hblk]
  have q1 : W0.cell? ⟨w.heap.size, 1, none⟩ = some (.slice A0_1 l0_1.length c0_1) := by simp [World.cell?, hblk]
  have q2 : W0.cell? ⟨w.heap.size, 2, none⟩ = some (.slice A0_2 l0_2.length c0_2) := by simp [World.cell?, hblk]
  have hFT := Lib.hid hfit
  clear hr0_0 hr0_1 hr0_2 hc0_2 hc0_0 hr1 hc1 hfit hW0 hblk hbW0
  cases b with
  | false =>
    rw [if_neg (by simp)] at h
    have h := Option.some.inj h
    simp only [Prod.mk.injEq] at h
    obtain ⟨rfl, rfl, rfl⟩ := h
    go_enter Try.func66, Try.ntmps66
    go_wp2_with fail
    rw [HW0.out]
    go_wp2_with fail
    refine HF.out.mono ?_
    rintro e w1 ⟨rfl, hb⟩
    have HB := Aside0.mk (below_then HBW0.out HBW0.out.size hb)
    clear hb
    go_wp2
    go_ret3
    exact ⟨_, _, rfl, Kd.R_nil _ _ _ _ _, Kd.R_nil _ _ _ _ _, HB.out⟩
  | true =>
    rw [if_pos rfl] at h
    by_cases hLl : l0_1.length ≤ 1000000
    · rw [if_pos hLl] at h
      obtain ⟨hlen, hM, hMl, hgo, hany⟩ := fits_true hFT.out
      have HM := Lib.hid hM
      have HGO := Lib.hid hgo
      have HANY := Lib.hid hany
      have HLEN := Lib.hid hlen
      clear hM hgo hany hFT hlen
      have hmm := @run_makeMap Try.prog
      go_enter Try.func66, Try.ntmps66
      go_wp2_with fail
      rw [HW0.out]
      go_wp2_with fail
      refine HF.out.mono ?_
      rintro e w1 ⟨rfl, hb⟩
      have hw1 : w.heap.size < w1.heap.size := Nat.lt_of_lt_of_le (blk_lt HBLK.out) hb.size
      obtain ⟨kc, hkc⟩ : ∃ kc : List (Nat × Obj), kc = [(w.heap.size, Obj.cells #[.slice A0_0 l0_0.length c0_0, .slice A0_1 l0_1.length c0_1, .slice A0_2 l0_2.length c0_2] 51 (0, 0))] := ⟨_, rfl⟩
      have hst : MapIs w w1.heap.size kc 0 (fun _ => none) (w1.alloc (.map #[] 0)) := by
        have hB1 := below_then HBW0.out HBW0.out.size hb
        refine ⟨below_alloc hB1 _, hB1.size, ?_, mi_made w1⟩
        intro p hp
        rw [hkc] at hp
        rw [List.mem_singleton.1 hp]
        exact ⟨by show w.heap.size ≠ w1.heap.size; omega, blk_alloc ((hb.block w.heap.size (blk_lt HBLK.out)).trans HBLK.out) _⟩
      have HST := Aside0.mk hst
      have hcells : ∀ n F wr, MapIs w w1.heap.size kc n F wr → wr.cell? ⟨w.heap.size, 0, none⟩ = some (.slice A0_0 l0_0.length c0_0) ∧ wr.cell? ⟨w.heap.size, 1, none⟩ = some (.slice A0_1 l0_1.length c0_1) := by
        intro n F wr hm
        have hk := hm.kept
        rw [hkc] at hk
        have h1 := (hk (w.heap.size, Obj.cells #[.slice A0_0 l0_0.length c0_0, .slice A0_1 l0_1.length c0_1, .slice A0_2 l0_2.length c0_2] 51 (0, 0)) (by simp)).2
        refine ⟨?_, ?_⟩ <;> simp [World.cell?, h1]
      have HCELL := Lib.hid hcells
      clear hcells hst hkc hb HF HBLK HBW0 HW0
      clear q0 q1 q2
      go_wp2
      have hlen := HLEN.out
      clear HLEN
      obtain ⟨nE, hnE⟩ : ∃ nE, l0_0.length = nE := ⟨_, rfl⟩
      rw [hnE] at HCELL hlen
      rw [hlen] at hMl ⊢
      have HNE := Lib.hid hnE
      have HLE := Lib.hid hlen
      clear hnE hlen
      generalize w1.heap.size = bm at *
      obtain ⟨FF, hFF⟩ : ∃ FF, toF l0_0 l1 l1 0 (fun _ => none) = FF := ⟨_, rfl⟩
      obtain ⟨MO, hMO⟩ : ∃ MO, mostF l1 (-1) = MO := ⟨_, rfl⟩
      rw [hFF, hMO] at h
      have HF0 := Aside0.mk (show toF l0_0 l1 (l1.drop 0) ((0 : Nat) : Int) (fun _ => none) = FF from hFF)
      have HM0 := Aside0.mk (show mostF (l1.drop 0) (-1) = MO from hMO)
      have hMO1 : -1 ≤ MO := by rw [← hMO]; exact mostF_mono l1 (-1)
      have HRES := Lib.hid h
      clear hFF hMO h
      go_loopg [8, 9, 10, 25] nE (fun gg v8 _ _ v25 wr => ∃ (j n : Nat) (a : Int) (F : Int → Option Int), v25 = .int .i64 j ∧ v8 = .int .i64 a ∧ j ≤ nE ∧ nE - j ≤ gg ∧ n ≤ j ∧ -1 ≤ a ∧ a ≤ 9223372036854775807 ∧ Aside0 (toF l0_0 l1 (l1.drop j) (j : Int) F = FF) ∧ Aside0 (mostF (l1.drop j) a = MO) ∧ Aside0 (MapIs w bm kc n F wr))
      case atStart => exact ⟨0, 0, -1, fun _ => none, rfl, rfl, Nat.zero_le _, by omega, Nat.le_refl _, by omega, by omega, HF0, HM0, HST⟩
      case round =>
        clear HF0 HM0 HST
        obtain ⟨j, n, a, F, rfl, rfl, hj, hgj, hn, ha0, ha1, HP, HQ, HS⟩ := hrel
        by_cases hlt : j < nE
        · have hltz : (j : Int) < (nE : Int) := by omega
          obtain ⟨adm, eadm, hx0⟩ := Kd.at_int (Kd.C_below HC3.out HS.out.below) (j : Int) (by omega) (by rw [HLE.out]; omega)
          obtain ⟨ade, eade, hx1⟩ := Kd.at_int (Kd.C_below HC0.out HS.out.below) (j : Int) (by omega) (by rw [HNE.out]; omega)
          have hokx := rd_all l1 HM.out (j : Int) (by omega) (by rw [HLE.out]; omega)
          have hbx := (okI_iff _).1 hokx
          have hdr := Lib.hid (drop_int l1 j (by rw [HLE.out]; exact hlt))
          have hga := Lib.hid (fitGo_at l0_0 l1 l1 0 [] HGO.out j (by rw [HLE.out]; exact hlt))
          rw [Int.toNat_natCast] at hx0 hx1
          obtain ⟨x, hx⟩ : ∃ x, rd l1 (j : Int) = x := ⟨_, rfl⟩
          have hpa : Hid (toF l0_0 l1 (l1.drop (j + 1)) ((j + 1 : Nat) : Int) (if 0 ≤ x then mput F x (rd l1 (rd l0_0 (j : Int))) else F) = FF) := Lib.hid (by
            have := HP.out
            rw [hdr.out, hx] at this
            exact this)
          have hpb : Hid (mostF (l1.drop (j + 1)) (if 0 ≤ x then max a x else a) = MO) := Lib.hid (by
            have := HQ.out
            rw [hdr.out, hx] at this
            exact this)
          rw [hx] at hx0 hokx hbx hga
          clear hx hdr HP HQ
          cases eadm
          cases eade
          by_cases hxp : 0 ≤ x
          · obtain ⟨hi, -⟩ := hga.out hxp
            rw [Int.zero_add] at hi
            obtain ⟨hi0, hi1⟩ := inB_true hi
            rw [HLE.out] at hi1
            obtain ⟨adm', eadm', hx2⟩ := Kd.at_int (Kd.C_below HC3.out HS.out.below) (rd l0_0 (j : Int)) hi0 (by rw [HLE.out]; exact hi1)
            cases eadm'
            have hoky := rd_all l1 HM.out (rd l0_0 (j : Int)) hi0 (by rw [HLE.out]; exact hi1)
            have hpc : Hid (toF l0_0 l1 (l1.drop (j + 1)) ((j + 1 : Nat) : Int) (mput F x (rd l1 (rd l0_0 (j : Int)))) = FF) := Lib.hid (by have := hpa.out; rw [if_pos hxp] at this; exact this)
            have hpd : Hid (mostF (l1.drop (j + 1)) (max a x) = MO) := Lib.hid (by have := hpb.out; rw [if_pos hxp] at this; exact this)
            clear hi hga hpa hpb
            generalize rd l0_0 (j : Int) = e at *
            generalize rd l1 e = y at *
            obtain ⟨q0, q1⟩ := HCELL.out _ _ _ HS.out
            obtain ⟨s0, s1, s2⟩ := mj_put HS.out x y hokx hoky (by unfold maxLen; omega)
            have S1 := Aside0.mk s1
            have HX := Aside0.mk hpc.out
            clear s1 s2 hpc
            have dx := decide_eq_true hxp
            by_cases hax : a < x
            · have HY := Aside0.mk (show mostF (l1.drop (j + 1)) x = MO by have := hpd.out; rw [show max a x = x by omega] at this; exact this)
              clear hpd
              have hax2 : ¬ x ≤ a := by omega
              go_wp2
              go_roundg (nE - (j + 1))
              case measure => omega
              case rel => exact ⟨j + 1, n + 1, x, mput F x y, by go_num, rfl, by omega, Nat.le_refl _, by omega, by omega, by omega, HX, HY, S1⟩
            · have HY := Aside0.mk (show mostF (l1.drop (j + 1)) a = MO by have := hpd.out; rw [show max a x = a by omega] at this; exact this)
              clear hpd
              have hax2 : x ≤ a := by omega
              go_wp2
              go_roundg (nE - (j + 1))
              case measure => omega
              case rel => exact ⟨j + 1, n + 1, a, mput F x y, by go_num, rfl, by omega, Nat.le_refl _, by omega, by omega, by omega, HX, HY, S1⟩
          · have HX := Aside0.mk (show toF l0_0 l1 (l1.drop (j + 1)) ((j + 1 : Nat) : Int) F = FF by have := hpa.out; rw [if_neg hxp] at this; exact this)
            have HY := Aside0.mk (show mostF (l1.drop (j + 1)) a = MO by have := hpb.out; rw [if_neg hxp] at this; exact this)
            clear hga hpa hpb
            have dx := decide_eq_false hxp
            go_wp2
            go_roundg (nE - (j + 1))
            case measure => omega
            case rel => exact ⟨j + 1, n, a, F, by go_num, rfl, by omega, Nat.le_refl _, by omega, by omega, by omega, HX, HY, HS⟩
        · have hltz : ¬ (j : Int) < (nE : Int) := by omega
          obtain rfl : j = nE := by omega
          have hP := HP.out
          have hQ := HQ.out
          rw [List.drop_of_length_le (by rw [HLE.out]; exact Nat.le_refl _)] at hP hQ
          have hP1 : F = FF := hP
          have hQ1 : a = MO := hQ
          subst hP1
          subst hQ1
          clear hP hQ HP HQ
          by_cases hmo : a ≥ 16777216
          · have hR := HRES.out
            rw [if_pos hmo] at hR
            have hR := Option.some.inj hR
            simp only [Prod.mk.injEq] at hR
            obtain ⟨rfl, rfl, rfl⟩ := hR
            have dm := decide_eq_true hmo
            go_wp2
            go_ret3
            exact ⟨_, _, rfl, Kd.R_nil _ _ _ _ _, Kd.R_nil _ _ _ _ _, HS.out.below⟩
          · have hR := HRES.out
            rw [if_neg hmo] at hR
            obtain ⟨r, hlk, hR⟩ := Option.bind_eq_some_iff.mp hR
            have hR := Option.some.inj hR
            simp only [Prod.mk.injEq] at hR
            obtain ⟨rfl, rfl, rfl⟩ := hR
            have HLK := Lib.hid hlk
            clear hlk hR HRES
            have dm := decide_eq_false hmo
            have hmo2 : a < 16777216 := by omega
            go_wp2
            generalize wr = W1 at *
            go_loopg [11, 12, 13, 14, 50] (a + 1).toNat (fun gg v11 _ _ _ v50 wq => ∃ i : Nat, v50 = .int .i64 i ∧ (i : Int) ≤ a + 1 ∧ (a + 1).toNat - i ≤ gg ∧ Aside0 (Kd.R (Kd.int .i64) 3 wq W1.heap.size (fun _ => True) v11 (edgeL F i)) ∧ Aside0 (Below W1.heap.size W1 wq))
            case atStart => exact ⟨0, rfl, by omega, by omega, ⟨Kd.R_nil _ _ _ _ _⟩, ⟨Below.refl _ _⟩⟩
            case round =>
              obtain ⟨i, rfl, hi, hgi, HO, HB⟩ := hrel
              by_cases hlt2 : (i : Int) < a + 1
              · have hl := mi_look (mi_below HS.out.map HB.out) (i : Int) (okI_of (by omega) (by omega))
                have HES := Lib.hid (edgeL_succ F i)
                have hel := edgeL_len F i
                obtain ⟨l, hle⟩ : ∃ l, edgeL F i = l := ⟨_, rfl⟩
                rw [hle] at HO HES hel
                clear hle
                cases hF : F (i : Int) with
                | none =>
                  rw [hF] at hl HES
                  have hl2 : (Instr.lookup 101 (.map (some bm)) (.int .i64 (i : Int)) true).run Try.prog wr = .ok (.tuple #[.int .i64 0, .bool false]) wr := hl
                  have HX := Lib.hid (show edgeL F (i + 1) = l ++ [-1] from HES.out)
                  clear hl HES hF
                  go_wp2_with (at_builtin; refine Kd.R_append (Kd.int .i64) (w0 := W1) W1.heap.size rfl _ _ 24 3 (.int .i64 0) 8 rfl Try.underlying24 where_info rfl (by decide) (by decide) u11 l (-1) [.int .i64 (-1)] (fun _ => True) (fun _ => False) rfl rfl (where_tok _ _ _ _) (fun _ h_ => h_.elim) (fun _ _ => trivial) HO.out HB.out HB.out.size ?hl ?hk)
                  case hl => omega
                  case hk =>
                    intro v1 w3 ho hb hgr hat
                    have HO3 := Aside0.mk ho
                    have HB3 := Aside0.mk hb
                    clear ho hb hgr hat
                    go_wp2
                    go_roundg ((a + 1).toNat - (i + 1))
                    case measure => omega
                    case rel => exact ⟨i + 1, by go_num, by omega, Nat.le_refl _, ⟨by rw [HX.out]; exact HO3.out⟩, ⟨HB3.out⟩⟩
                | some d =>
                  rw [hF] at hl HES
                  have hl2 : (Instr.lookup 101 (.map (some bm)) (.int .i64 (i : Int)) true).run Try.prog wr = .ok (.tuple #[.int .i64 d, .bool true]) wr := hl
                  have HX := Lib.hid (show edgeL F (i + 1) = l ++ [d] from HES.out)
                  clear hl HES hF
                  go_wp2_with (at_builtin; refine Kd.R_append (Kd.int .i64) (w0 := W1) W1.heap.size rfl _ _ 24 3 (.int .i64 0) 8 rfl Try.underlying24 where_info rfl (by decide) (by decide) u11 l d [.int .i64 d] (fun _ => True) (fun _ => False) rfl rfl (where_tok _ _ _ _) (fun _ h_ => h_.elim) (fun _ _ => trivial) HO.out HB.out HB.out.size ?hl ?hk)
                  case hl => omega
                  case hk =>
                    intro v1 w3 ho hb hgr hat
                    have HO3 := Aside0.mk ho
                    have HB3 := Aside0.mk hb
                    clear ho hb hgr hat
                    go_wp2
                    go_roundg ((a + 1).toNat - (i + 1))
                    case measure => omega
                    case rel => exact ⟨i + 1, by go_num, by omega, Nat.le_refl _, ⟨by rw [HX.out]; exact HO3.out⟩, ⟨HB3.out⟩⟩
              · have hlt3 : ¬ (i : Int) < a + 1 := hlt2
                obtain rfl : i = (a + 1).toNat := by omega
                have hB2 := below_then HS.out.below HS.out.below.size HB.out
                have HS2 := Aside0.mk (mj_below HS.out HB.out)
                obtain ⟨q0, q1⟩ := HCELL.out _ _ _ HS2.out
                have HE := Aside0.mk (Kd.R_lower HO.out HS.out.below.size)
                have HB2 := Aside0.mk hB2
                obtain ⟨eL, heL⟩ : ∃ eL, edgeL F (a + 1).toNat = eL := ⟨_, rfl⟩
                rw [heL] at HE
                have HEL := Lib.hid heL
                clear hB2 HO HB HS HS2 heL
                obtain ⟨nL, hnL⟩ : ∃ nL, l0_1.length = nL := ⟨_, rfl⟩
                rw [hnL] at hLl q1
                have HNL := Lib.hid hnL
                clear hnL
                go_wp2
                clear q0 q1
                generalize wr = W2 at *
                go_loopg [15, 17, 69] nL (fun gg v15 _ v69 wz => ∃ j : Nat, v69 = .int .i64 j ∧ j ≤ nL ∧ nL - j ≤ gg ∧ Aside0 (Kd.R k34 34 wz W2.heap.size (fun _ => True) v15 (carL l1 (l0_1.take j))) ∧ Aside0 (Below W2.heap.size W2 wz))
                case atStart => exact ⟨0, rfl, by omega, by omega, ⟨Kd.R_nil _ _ _ _ _⟩, ⟨Below.refl _ _⟩⟩
                case round =>
                  obtain ⟨j, rfl, hj, hgj, HO, HB⟩ := hrel
                  by_cases hlt4 : j < nL
                  · have hltz : (j : Int) < (nL : Int) := by omega
                    have hBw := below_then HB2.out HB2.out.size HB.out
                    obtain ⟨ad1, ead1, hx0, hx1⟩ := at_T34 (Kd.C_below HC1.out hBw) (j : Int) (by omega) (by rw [HNL.out]; omega)
                    rw [Int.toNat_natCast] at hx0 hx1
                    obtain ⟨hi0, hi1⟩ := fitP_at l1 l0_1 HANY.out j (by rw [HNL.out]; exact hlt4)
                    have hcs := Lib.hid (carL_snoc l1 l0_1 j (by rw [HNL.out]; exact hlt4))
                    have hll : (carL l1 (l0_1.take j)).length ≤ 1000000 := by
                      unfold carL
                      rw [List.length_map, List.length_take, HNL.out]
                      omega
                    obtain ⟨l, hl⟩ : ∃ l, carL l1 (l0_1.take j) = l := ⟨_, rfl⟩
                    rw [hl] at HO hcs hll
                    clear hl
                    generalize rd_T34 l0_1 (j : Int) = x at hx0 hx1 hi0 hi1 hcs
                    obtain ⟨p, q⟩ := x
                    dsimp only at hx0 hx1 hi0 hi1 hcs
                    cases ead1
                    obtain ⟨hp0, hp1⟩ := inB_true hi0
                    obtain ⟨hq0, hq1⟩ := inB_true hi1
                    have HCm := Kd.C_alloc (Kd.C_below HC3.out hBw) (.cells #[.int .i64 p, .int .i64 q] 34)
                    obtain ⟨adm, eadm, hy0⟩ := Kd.at_int HCm p hp0 hp1
                    obtain ⟨adm', eadm', hy1⟩ := Kd.at_int HCm q hq0 hq1
                    rw [HLE.out] at hp1 hq1
                    cases eadm
                    cases eadm'
                    have HO2 := Aside0.mk (Kd.R_below (Kd.R_alloc HO.out (.cells #[.int .i64 p, .int .i64 q] 34)) (below_drew (Below.refl _ _)))
                    have HB3 := Aside0.mk (below_drew (below_alloc HB.out (.cells #[.int .i64 p, .int .i64 q] 34)))
                    have HX := Lib.hid hcs.out
                    obtain ⟨inner, hown⟩ := Kd.R_own HO.out
                    have z0 : (wr.alloc (.cells #[.int .i64 p, .int .i64 q] 34)).cell? ⟨wr.heap.size, 0, none⟩ = some (.int .i64 p) := by unfold World.cell?; rw [blk_new wr (.cells #[.int .i64 p, .int .i64 q] 34)]; rfl
                    have z1 : (wr.alloc (.cells #[.int .i64 p, .int .i64 q] 34)).cell? ⟨wr.heap.size, 1, none⟩ = some (.int .i64 q) := by unfold World.cell?; rw [blk_new wr (.cells #[.int .i64 p, .int .i64 q] 34)]; rfl
                    have n0 : some wr.heap.size ≠ u15.ownBlock := fun e => by have := own_lt hown _ e.symm; omega
                    have hwW : w.heap.size ≤ W2.heap.size := HB2.out.size
                    have n1 : some (adm.add p.toNat).block ≠ u15.ownBlock := fun e => by
                      obtain ⟨adw, eadw, hyw⟩ := Kd.at_int HC3.out p hp0 (by rw [HLE.out]; exact hp1)
                      cases eadw
                      have h1 := World.block_lt_of_cell? w _ hyw
                      have h2 := own_base hown _ e.symm
                      omega
                    have n2 : some (adm.add q.toNat).block ≠ u15.ownBlock := fun e => by
                      obtain ⟨adw, eadw, hyw⟩ := Kd.at_int HC3.out q hq0 (by rw [HLE.out]; exact hq1)
                      cases eadw
                      have h1 := World.block_lt_of_cell? w _ hyw
                      have h2 := own_base hown _ e.symm
                      omega
                    have N0 := Lib.hid n0
                    have N1 := Lib.hid n1
                    have N2 := Lib.hid n2
                    clear HCm hBw hcs HO HB hi0 hi1 hown n0 n1 n2 hwW
                    generalize rd l1 p = y at *
                    generalize rd l1 q = z at *
                    have Z0 := Lib.hid z0
                    have Z1 := Lib.hid z1
                    have Y0 := Lib.hid hy0
                    have Y1 := Lib.hid hy1
                    go_wp2_with fail
                    go_region_held3 (fun w' => w'.cell? ⟨wr.heap.size, 0, none⟩ = some (.int .i64 p) ∧ w'.cell? ⟨wr.heap.size, 1, none⟩ = some (.int .i64 q) ∧ w'.cell? (adm.add p.toNat) = some (.int .i64 y) ∧ w'.cell? (adm.add q.toNat) = some (.int .i64 z))
                      (first
                        | exact ⟨Z0.out, Z1.out, Y0.out, Y1.out⟩
                        | exact ⟨Lib.cell?_alloc_some _ Z0.out, Lib.cell?_alloc_some _ Z1.out, Lib.cell?_alloc_some _ Y0.out, Lib.cell?_alloc_some _ Y1.out⟩
                        | exact ⟨mcell_grown hgr Z0.out N0.out, mcell_grown hgr Z1.out N0.out, mcell_grown hgr Y0.out N1.out, mcell_grown hgr Y1.out N2.out⟩)
                      ((refine Kd.R_append_step k34 (w0 := W2) W2.heap.size (by rfl) _ _ 22 34 (.agg #[.int .i64 0, .int .i64 0]) 16 (by rfl) Try.underlying22 carry_full rfl (by decide) (by decide) u15 l ⟨y, z⟩ [.int .i64 y, .int .i64 z] (fun _ => True) (fun _ => False) (by rfl) (by show _ = Value.slice (some ⟨(wr.alloc (.cells #[.int .i64 p, .int .i64 q] 34)).heap.size, 0, none⟩) 1 1; rw [World.size_alloc]; rfl) (carry_tok _ _ _ _ _) (fun _ h_ => h_.elim) (fun _ _ => trivial) HO2.out HB3.out HB3.out.size (by omega) ?_; intro v1 w3 ho hb hgr hat))
                    have HO3 := Aside0.mk ho
                    have HB4 := Aside0.mk hb
                    clear ho hb hgr hat
                    go_wp2
                    go_roundg (nL - (j + 1))
                    case measure => omega
                    case rel => exact ⟨j + 1, by go_num, by omega, Nat.le_refl _, ⟨by rw [HX.out]; exact HO3.out⟩, ⟨HB4.out⟩⟩
                  · have hltz : ¬ (j : Int) < (nL : Int) := by omega
                    obtain rfl : j = nL := by omega
                    obtain rfl := HNL.out
                    rw [List.take_of_length_le (Nat.le_refl _)] at HO
                    obtain ⟨p, cap, hv, hc, hC⟩ := Kd.R_reads HO.out
                    subst hv
                    have HLi := Aside0.mk (match_Links.calls k p cap (carL l1 l0_1) r wr hC hc HLK.out)
                    have HBz := Aside0.mk (below_then HB2.out HB2.out.size HB.out)
                    have HE2 := Aside0.mk (Kd.R_below HE.out HB.out)
                    clear hC HO HB HE HC0 HC1 HC3
                    go_wp2_with fail
                    refine HLi.out.mono ?_
                    rintro e w5 ⟨v1, rfl, ho, hb⟩
                    have HO5 := Aside0.mk (Kd.R_lower ho HBz.out.size)
                    have HE5 := Aside0.mk (Kd.R_below HE2.out hb)
                    have HB5 := Aside0.mk (below_then HBz.out HBz.out.size hb)
                    clear ho hb
                    go_wp2
                    go_ret3
                    exact ⟨_, _, rfl, by rw [HEL.out]; exact HE5.out, HO5.out, HB5.out⟩
    · rw [if_neg hLl] at h
      cases h



end Go.Proofs.Ythgjieigpfcekaa.QG
