-- Laid by this claim's own program (mprint.py in the repo).
import Derived.Test.YtfmbfnjlennfoaaQNx0
namespace Go.Proofs.Ytfmbfnjlennfoaa.QN
open Go.RowKit Go.Proofs.YtfmbfnjlennfoaaW.PrintWords Go.Proofs.YtfmbfnjlennfoaaW.PrintLast Go.Proofs.YtfmbfnjlennfoaaW.PrintMore
attribute [local go_sem] max2_int min2_int max_two min_two max_three min_three max_four min_four   -- for this text's walks alone
set_option linter.unusedVariables false
set_option linter.unusedSimpArgs false

/-! ### match_Links: function 12 -/
open Go.Maps in
/-- A map[int]bool of the call's own, block b, of at most n entries: the numbers of S are true in it. -/
def MB (w : World) (b n : Nat) (S : List Int) : Prop := ∃ D : DataW Unit, w.ownsMap Try.prog 3 (plainElem Try.prog 4) b n D ∧ IsMap D ∧ ∀ i : Int, D.atKey (.int .i64 i) (.lit (.bool false)) = .lit (.bool (S.contains i))
def okI (i : Int) : Bool := (Lit.int .i64 i).wf
theorem mb_keyed : Maps.Keyed Try.prog 3 := Maps.int_keyed Try.underlying3
theorem mb_zero (w : World) : (zeroValue 4).run Try.prog w = .ok (.bool false) w := by kernel_rfl
theorem mb_made (w : World) : MB (w.alloc (.map #[] 0)) w.heap.size 0 [] :=
  ⟨.map [], World.ownsMap_made w _ _ _, Maps.isMap_empty, fun i => rfl⟩
theorem mb_mono {w : World} {b n n' : Nat} {S : List Int} (h : MB w b n S) (hn : n ≤ n') : MB w b n' S := by
  obtain ⟨D, h1, h2, h3⟩ := h
  exact ⟨D, h1.mono hn, h2, h3⟩
theorem mb_congr {w : World} {b n : Nat} {S S' : List Int} (h : MB w b n S) (hs : ∀ i, S.contains i = S'.contains i) : MB w b n S' := by
  obtain ⟨D, h1, h2, h3⟩ := h
  exact ⟨D, h1, h2, fun i => by rw [h3, hs]⟩
theorem mb_lt {w : World} {b n : Nat} {S : List Int} (h : MB w b n S) : b < w.heap.size := by
  obtain ⟨D, h1, _⟩ := h
  exact h1.lt
theorem mb_kept {w w' : World} {b n : Nat} {S : List Int} {row : Option Nat} (h : MB w b n S) (hg : w.grownBy w' row) (hne : some b ≠ row) : MB w' b n S := by
  obtain ⟨D, h1, h2, h3⟩ := h
  exact ⟨D, h1.kept hg hne, h2, h3⟩
theorem mb_below {w w' : World} {b n : Nat} {S : List Int} (h : MB w b n S) (hb : Below w.heap.size w w') : MB w' b n S := mb_kept h (grown_of_below hb none) (by simp)
set_option maxRecDepth 100000 in
theorem plainElem_bool_inv {v : Value} {z : DataW Unit × List MemPlace} (h : plainElem Try.prog 4 v = some z) : ∃ x, v = .bool x ∧ z = (.lit (.bool x), []) := by
  unfold plainElem at h
  rw [Try.underlying4] at h
  cases v <;> simp at h
  obtain rfl := h
  exact ⟨_, rfl, rfl⟩
set_option maxRecDepth 100000 in
theorem mb_look {w : World} {b n : Nat} {S : List Int} (h : MB w b n S) (i : Int) (hi : okI i = true) : (Instr.lookup 65 (.map (some b)) (.int .i64 i) false).run Try.prog w = .ok (.bool (S.contains i)) w := by
  obtain ⟨D, h1, _, h3⟩ := h
  obtain ⟨v, ps, hrun, hv⟩ := h1.lookup mb_keyed Try.underlying65 (mb_zero w) (plainElem_bool Try.underlying4 false) (Maps.keyOf_int_mk Try.underlying3 hi)
  obtain ⟨x, rfl, hx⟩ := plainElem_bool_inv hv
  rw [h3] at hx
  simp only [Prod.mk.injEq] at hx
  have h4 : S.contains i = x := by
    have := hx.1
    injection this with this
    injection this
  rw [h4]
  exact hrun
set_option maxRecDepth 100000 in
theorem mb_put {w : World} {b n : Nat} {S : List Int} (h : MB w b n S) (hn : n < maxLen) (i : Int) (hi : okI i = true) :
    ∃ w', (Instr.mapUpdate 65 (.map (some b)) (.int .i64 i) (.bool true)).run Try.prog w = .ok () w' ∧ MB w' b (n + 1) (i :: S) ∧ w.grownBy w' (some b) := by
  obtain ⟨D, h1, h2, h3⟩ := h
  obtain ⟨w', hrun, ho, hg⟩ := h1.update mb_keyed Try.underlying65 hn (Maps.keyOf_int_mk Try.underlying3 hi) (plainElem_bool Try.underlying4 true)
  refine ⟨w', hrun, ⟨_, ho, h2.put _ _, fun j => ?_⟩, hg⟩
  by_cases e : j = i
  · subst e
    rw [Maps.atKey_put_same h2 (by first | exact trivial | simp [WideAt.IsKeyLit] | decide)]
    simp
  · rw [Maps.atKey_put_other (by intro h; injection h with _ h; exact e h), h3]
    rw [List.contains_cons]
    simp [e]
theorem mb_insert {ops : Array Oper} {rest : List Oper} {o : Oper} {a : Act} {w : World} {Q : Exit → Act → World → Prop} (hg : o.guard = none) (m x : Operand) (ho : o.op = Op.insert 65 m x (.const (.bool true))) (b n : Nat) (S : List Int) (i : Int)
    (hm : a.eval m = .map (some b)) (hx : a.eval x = .int .i64 i) (hM : MB w b n S) (hn : n < maxLen) (hi : okI i = true) (h : ∀ w1, MB w1 b (n + 1) (i :: S) → w.grownBy w1 (some b) → wpList Try.prog ops Q rest (a.put o.dst undef) w1) :
    wpList Try.prog ops Q (o :: rest) a w := by
  obtain ⟨w1, hrun, h1, h2⟩ := mb_put hM hn i hi
  refine wpList_plain hg fun K' hK' => ?_
  have hv : a.eval (.const (.bool true)) = .bool true := rfl
  unfold Oper.wp
  simp [execOp, ho, hm, hx, hv, hrun, Result.andThen]
  exact hK' _ _ (h w1 h1 h2)
theorem mb_store {ops : Array Oper} {rest : List Oper} {o : Oper} {a : Act} {w : World} {Q : Exit → Act → World → Prop} (hg : o.guard = none) (m x : Operand) (ho : o.op = Op.mapUpdate 65 m x (.const (.bool true))) (b n : Nat) (S : List Int) (i : Int)
    (hm : a.eval m = .map (some b)) (hx : a.eval x = .int .i64 i) (hM : MB w b n S) (hn : n < maxLen) (hi : okI i = true) (h : ∀ w1, MB w1 b (n + 1) (i :: S) → w.grownBy w1 (some b) → wpList Try.prog ops Q rest (a.put o.dst undef) w1) :
    wpList Try.prog ops Q (o :: rest) a w := by
  obtain ⟨w1, hrun, h1, h2⟩ := mb_put hM hn i hi
  refine wpList_plain hg fun K' hK' => ?_
  have hv : a.eval (.const (.bool true)) = .bool true := rfl
  unfold Oper.wp
  simp [execOp, ho, hm, hx, hv, hrun, Result.andThen]
  exact hK' _ _ (h w1 h1 h2)
/-- What a store into the map makes of the world. -/
noncomputable def mapPut (w : World) (b : Nat) (i : Int) : World := match (Instr.mapUpdate 65 (.map (some b)) (.int .i64 i) (.bool true)).run Try.prog w with
  | .ok _ w' => w'
  | _ => w
theorem mb_run {w : World} {b n : Nat} {S : List Int} (h : MB w b n S) (hn : n < maxLen) (i : Int) (hi : okI i = true) :
    (Instr.mapUpdate 65 (.map (some b)) (.int .i64 i) (.bool true)).run Try.prog w = .ok () (mapPut w b i) ∧ MB (mapPut w b i) b (n + 1) (i :: S) ∧ w.grownBy (mapPut w b i) (some b) := by
  obtain ⟨w', hrun, h1, h2⟩ := mb_put h hn i hi
  have e : mapPut w b i = w' := by unfold mapPut; rw [hrun]
  rw [e]
  exact ⟨hrun, h1, h2⟩
theorem okI_of {i : Int} (h0 : -9223372036854775808 ≤ i) (h1 : i ≤ 9223372036854775807) : okI i = true := by
  have a : IntKind.i64.min = -9223372036854775808 := by decide
  have b : IntKind.i64.max = 9223372036854775807 := by decide
  simp [okI, Lit.wf, a, b, h0, h1]
/-- The state of rounds that fill a map of the call's own, block bm: what was made lies where it lay; the map holds S. -/
structure MapSt (w : World) (bm : Nat) (ks : List (Nat × Obj)) (S : List Int) (wr : World) : Prop where
  below : Below w.heap.size w wr
  base : w.heap.size ≤ bm
  kept : ∀ p ∈ ks, p.1 ≠ bm ∧ wr.heap[p.1]? = some p.2
  map : MB wr bm S.length S
theorem ms_alloc {w : World} {bm : Nat} {ks : List (Nat × Obj)} {S : List Int} {wr : World} (h : MapSt w bm ks S wr) (o : Obj) : MapSt w bm ks S (wr.alloc o) :=
  ⟨h.below.alloc h.below.size o, h.base, fun p hp => ⟨(h.kept p hp).1, blk_alloc (h.kept p hp).2 o⟩, mb_below h.map (below_alloc (Below.refl _ _) o)⟩
theorem ms_more {w : World} {bm : Nat} {ks : List (Nat × Obj)} {S : List Int} {wr : World} (h : MapSt w bm ks S wr) (o : Obj) : MapSt w bm ((wr.heap.size, o) :: ks) S (wr.alloc o) := by
  have h1 := ms_alloc h o
  refine ⟨h1.below, h1.base, fun p hp => ?_, h1.map⟩
  rcases List.mem_cons.1 hp with rfl | hp
  · have := mb_lt h.map
    exact ⟨by simp; omega, blk_new wr o⟩
  · exact h1.kept p hp
theorem ms_drewN {w : World} {bm : Nat} {ks : List (Nat × Obj)} {S : List Int} {wr : World} (h : MapSt w bm ks S wr) (n : Nat) : MapSt w bm ks S (wr.drewN n) :=
  ⟨pw_below_drewN h.below n, h.base, h.kept, mb_below h.map (pw_below_drewN (Below.refl _ _) n)⟩
theorem ms_drew {w : World} {bm : Nat} {ks : List (Nat × Obj)} {S : List Int} {wr : World} (h : MapSt w bm ks S wr) : MapSt w bm ks S wr.drew :=
  ⟨below_drew h.below, h.base, h.kept, mb_below h.map (below_drew (Below.refl _ _))⟩
theorem ms_put {w : World} {bm : Nat} {ks : List (Nat × Obj)} {S : List Int} {wr : World} (h : MapSt w bm ks S wr) (i : Int) (hi : okI i = true) (hn : S.length < maxLen) :
    (Instr.mapUpdate 65 (.map (some bm)) (.int .i64 i) (.bool true)).run Try.prog wr = .ok () (mapPut wr bm i) ∧ MapSt w bm ks (i :: S) (mapPut wr bm i) ∧ wr.grownBy (mapPut wr bm i) (some bm) := by
  obtain ⟨h1, h2, h3⟩ := mb_run h.map hn i hi
  have hb := h.base
  refine ⟨h1, ⟨⟨h3.os.trans h.below.os, h3.tape.trans h.below.tape, h3.output.trans h.below.output, Nat.le_trans h.below.size h3.size, fun k hk => ?_⟩, h.base, fun p hp => ?_, h2⟩, h3⟩
  · exact (h3.block k (Nat.lt_of_lt_of_le hk h.below.size) (by simp; omega)).trans (h.below.block k hk)
  · obtain ⟨ha, hc⟩ := h.kept p hp
    exact ⟨ha, (h3.block p.1 (blk_lt hc) (by simp; exact ha)).trans hc⟩
theorem ms_congr {w : World} {bm : Nat} {ks : List (Nat × Obj)} {S S' : List Int} {wr : World} (h : MapSt w bm ks S wr) (hl : S.length = S'.length) (hs : ∀ i, S.contains i = S'.contains i) : MapSt w bm ks S' wr :=
  ⟨h.below, h.base, h.kept, by have := mb_congr h.map hs; rw [hl] at this; exact this⟩
theorem ms_below {w : World} {bm : Nat} {ks : List (Nat × Obj)} {S : List Int} {wr w' : World} (h : MapSt w bm ks S wr) (hb : Below wr.heap.size wr w') : MapSt w bm ks S w' :=
  ⟨below_then h.below h.below.size hb, h.base, fun p hp => ⟨(h.kept p hp).1, (hb.block p.1 (blk_lt (h.kept p hp).2)).trans (h.kept p hp).2⟩, mb_below h.map hb⟩
theorem mb_cell1 {w : World} {b : Nat} {v : Value} {t : Nat} {z : Nat × Nat} (h : w.heap[b]? = some (.cells #[v] t z)) : w.cell? ⟨b, 0, none⟩ = some v := by
  simp [World.cell?, h]
theorem drop_int (E : List Int) (j : Nat) (h : j < E.length) : E.drop j = rd E (j : Int) :: E.drop (j + 1) := by
  rw [List.drop_eq_getElem_cons h]
  congr 1
  show _ = E.getD j _
  rw [List.getD_eq_getElem?_getD, List.getElem?_eq_getElem h]
  rfl
theorem mcell_grown {W w1 : World} {row : Option Nat} (hg : W.grownBy w1 row) {a : Addr} {v : Value} (h : W.cell? a = some v) (hne : some a.block ≠ row) : w1.cell? a = some v := by
  have hb : a.block < W.heap.size := World.block_lt_of_cell? W _ h
  unfold World.cell? at h ⊢
  rw [hg.block a.block hb hne]
  exact h

open Go.Shelf Go.RowKit Go.Lib Go.Sort in
theorem gw_below (w : World) (os : Array Obj) : Below w.heap.size w (grow w os) :=
  ⟨rfl, rfl, rfl, by simp [grow], fun k hk => by simp [grow, Array.getElem?_append, hk]⟩
def agp (x : S42) : Value := .agg #[.int .i64 x.f0, .int .i64 x.f1]
def ltP (x y : S42) : Bool := decide (x.f0 < y.f0) || (decide (x.f0 = y.f0) && decide (x.f1 < y.f1))
def cmpP (x y : S42) : Int := if ltP x y = true then -1 else if ltP y x = true then 1 else 0
set_option maxHeartbeats 2000000 in
set_option maxRecDepth 100000 in
theorem lk_less (x y : S42) (W : World) : Calls Try.prog 29 #[agp x, agp y] W fun e w' => e = .returned (.bool (ltP x y)) ∧ ∃ os, w' = Sort.grow W os := by
  obtain ⟨a, b⟩ := x
  obtain ⟨c, d⟩ := y
  have hu34 := Try.underlying42
  unfold agp ltP
  dsimp only
  have hg : ∃ os, ((W.alloc (.cells #[.int .i64 a, .int .i64 b] 42)).alloc (.cells #[.int .i64 c, .int .i64 d] 42)) = Sort.grow W os := ⟨_, by rw [Sort.alloc_eq_grow, Sort.alloc_eq_grow, Sort.grow_grow]⟩
  have HG := Lib.hid hg
  clear hg
  by_cases h0 : a < c
  · have d0 := decide_eq_true h0
    go_enter Try.func29, Try.ntmps29
    go_wp2
    go_ret
    exact ⟨by simp [h0], HG.out⟩
  · have d0 := decide_eq_false h0
    by_cases h1 : a = c
    · subst h1
      by_cases h2 : b < d
      · have d2 := decide_eq_true h2
        go_enter Try.func29, Try.ntmps29
        go_wp2
        go_ret
        exact ⟨by simp [h2], HG.out⟩
      · have d2 := decide_eq_false h2
        go_enter Try.func29, Try.ntmps29
        go_wp2
        go_ret
        exact ⟨by simp [h2], HG.out⟩
    · have d1 := decide_eq_false h1
      have b1 : (a == c) = false := beq_eq_false_iff_ne.2 h1
      go_enter Try.func29, Try.ntmps29
      go_wp2
      go_ret
      exact ⟨by simp [h0, h1], HG.out⟩
theorem gw_grow (w : World) (os os' : Array Obj) : Sort.grow (Sort.grow w os) os' = Sort.grow w (os ++ os') := Sort.grow_grow w os os'
theorem gw_some {w w' : World} (h : ∃ os, w' = Sort.grow w os) : Below w.heap.size w w' := by
  obtain ⟨os, rfl⟩ := h
  exact gw_below w os
theorem gw_trans {w w1 w2 : World} (h : ∃ os, w1 = Sort.grow w os) (h' : ∃ os, w2 = Sort.grow w1 os) : ∃ os, w2 = Sort.grow w os := by
  obtain ⟨a, rfl⟩ := h
  obtain ⟨b, rfl⟩ := h'
  exact ⟨_, Sort.grow_grow w a b⟩
theorem gw_alloc (w : World) (o : Obj) : ∃ os, w.alloc o = Sort.grow w os := ⟨_, Sort.alloc_eq_grow w o⟩
set_option maxHeartbeats 2000000 in
set_option maxRecDepth 100000 in
theorem lk_compare (x y : S42) (W : World) : Calls Try.prog 22 #[.agg #[], agp x, agp y] W fun e w' => e = .returned (.int .i64 (cmpP x y)) ∧ ∃ os, w' = Sort.grow W os := by
  obtain ⟨a, b⟩ := x
  obtain ⟨c, d⟩ := y
  have hu34 := Try.underlying42
  have c1 := Aside0.mk (fun W => lk_less ⟨a, b⟩ ⟨c, d⟩ W)
  have c2 := Aside0.mk (fun W => lk_less ⟨c, d⟩ ⟨a, b⟩ W)
  unfold agp at *
  unfold cmpP
  dsimp only at *
  obtain ⟨W3, hW3⟩ : ∃ W3, ((W.alloc (.cells #[] 60)).alloc (.cells #[.int .i64 a, .int .i64 b] 42)).alloc (.cells #[.int .i64 c, .int .i64 d] 42) = W3 := ⟨_, rfl⟩
  have HG3 := Aside0.mk (show ∃ os, W3 = Sort.grow W os by rw [← hW3]; exact gw_trans (gw_trans (gw_alloc _ _) (gw_alloc _ _)) (gw_alloc _ _))
  have k1 : (((W.alloc (.cells #[] 60)).alloc (.cells #[.int .i64 a, .int .i64 b] 42)).alloc (.cells #[.int .i64 c, .int .i64 d] 42)).heap[W.heap.size + 1]? = some (.cells #[.int .i64 a, .int .i64 b] 42 (0, 0)) := by
    have := blk_alloc (blk_new (W.alloc (.cells #[] 60)) (.cells #[.int .i64 a, .int .i64 b] 42)) (.cells #[.int .i64 c, .int .i64 d] 42)
    simpa only [World.size_alloc] using this
  have k2 : (((W.alloc (.cells #[] 60)).alloc (.cells #[.int .i64 a, .int .i64 b] 42)).alloc (.cells #[.int .i64 c, .int .i64 d] 42)).heap[W.heap.size + 1 + 1]? = some (.cells #[.int .i64 c, .int .i64 d] 42 (0, 0)) := by
    have := blk_new ((W.alloc (.cells #[] 60)).alloc (.cells #[.int .i64 a, .int .i64 b] 42)) (.cells #[.int .i64 c, .int .i64 d] 42)
    simpa only [World.size_alloc] using this
  have z0 : W3.cell? ⟨W.heap.size + 1, 0, none⟩ = some (.int .i64 a) := by rw [← hW3]; unfold World.cell?; rw [k1]; rfl
  have z1 : W3.cell? ⟨W.heap.size + 1, 1, none⟩ = some (.int .i64 b) := by rw [← hW3]; unfold World.cell?; rw [k1]; rfl
  have z2 : W3.cell? ⟨W.heap.size + 1 + 1, 0, none⟩ = some (.int .i64 c) := by rw [← hW3]; unfold World.cell?; rw [k2]; rfl
  have z3 : W3.cell? ⟨W.heap.size + 1 + 1, 1, none⟩ = some (.int .i64 d) := by rw [← hW3]; unfold World.cell?; rw [k2]; rfl
  have zl : W.heap.size + 1 + 1 < W3.heap.size := by subst hW3; simp
  have HW3 := Lib.hid hW3
  clear hW3 k1 k2
  cases h1 : ltP ⟨a, b⟩ ⟨c, d⟩ with
  | true =>
    rw [h1] at c1
    have H1 := Lib.hid h1
    clear h1 c2
    go_enter Try.func22, Try.ntmps22
    go_wp2_with fail
    rw [HW3.out]
    refine (c1.out _).mono ?_
    rintro e w1 ⟨rfl, hg⟩
    have HG := Aside0.mk (gw_trans HG3.out hg)
    clear hg
    go_wp2
    go_ret
    exact ⟨rfl, HG.out⟩
  | false =>
    rw [h1] at c1
    have H1 := Lib.hid h1
    cases h2 : ltP ⟨c, d⟩ ⟨a, b⟩ <;>
    · rw [h2] at c2
      have H2 := Lib.hid h2
      clear h1 h2
      go_enter Try.func22, Try.ntmps22
      go_wp2_with fail
      rw [HW3.out]
      refine (c1.out _).mono ?_
      rintro e w1 ⟨rfl, hg⟩
      have hb := gw_some hg
      have y0 : w1.cell? ⟨W.heap.size + 1, 0, none⟩ = some (.int .i64 a) := (hb.cell (p := ⟨W.heap.size + 1, 0, none⟩) (by dsimp only; omega)).trans z0
      have y1 : w1.cell? ⟨W.heap.size + 1, 1, none⟩ = some (.int .i64 b) := (hb.cell (p := ⟨W.heap.size + 1, 1, none⟩) (by dsimp only; omega)).trans z1
      have y2 : w1.cell? ⟨W.heap.size + 1 + 1, 0, none⟩ = some (.int .i64 c) := (hb.cell (p := ⟨W.heap.size + 1 + 1, 0, none⟩) (by dsimp only; omega)).trans z2
      have y3 : w1.cell? ⟨W.heap.size + 1 + 1, 1, none⟩ = some (.int .i64 d) := (hb.cell (p := ⟨W.heap.size + 1 + 1, 1, none⟩) (by dsimp only; omega)).trans z3
      have HG := Aside0.mk (gw_trans HG3.out hg)
      clear hg hb c1
      go_wp2_with fail
      refine (c2.out _).mono ?_
      rintro e w2 ⟨rfl, hg⟩
      have HG' := Aside0.mk (gw_trans HG.out hg)
      clear hg
      go_wp2
      go_ret
      exact ⟨rfl, HG'.out⟩
set_option maxHeartbeats 2000000 in
set_option maxRecDepth 100000 in
theorem lk_closure (Bc : Nat) (x y : S42) (W : World) (hc : W.cell? ⟨Bc, 0, none⟩ = some (.func (.func 22) #[] #[])) : Calls Try.prog 24 (#[agp x, agp y] ++ #[.pointer (some ⟨Bc, 0, none⟩)]) W fun e w' => e = .returned (.int .i64 (cmpP x y)) ∧ ∃ os, w' = Sort.grow W os := by
  obtain ⟨a, b⟩ := x
  obtain ⟨c, d⟩ := y
  have hu34 := Try.underlying42
  have c1 := Aside0.mk (fun W => lk_compare ⟨a, b⟩ ⟨c, d⟩ W)
  show Calls Try.prog 24 #[agp ⟨a, b⟩, agp ⟨c, d⟩, .pointer (some ⟨Bc, 0, none⟩)] W _
  unfold agp at *
  dsimp only at *
  have HG3 := Aside0.mk (show ∃ os, (W.alloc (.cells #[.int .i64 a, .int .i64 b] 42)).alloc (.cells #[.int .i64 c, .int .i64 d] 42) = Sort.grow W os from gw_trans (gw_alloc _ _) (gw_alloc _ _))
  generalize cmpP ⟨a, b⟩ ⟨c, d⟩ = r at *
  have hbl : Bc < W.heap.size := World.block_lt_of_cell? W _ hc
  go_enter Try.func24, Try.ntmps24
  go_wp2_with fail
  refine (c1.out _).mono ?_
  rintro e w1 ⟨rfl, hg⟩
  have HG := Aside0.mk (gw_trans HG3.out hg)
  clear hg
  go_wp2
  go_ret
  exact ⟨rfl, HG.out⟩
instance : Inhabited S42 := ⟨z42⟩
def encP (x : S42) : List Value := [.int .i64 x.f0, .int .i64 x.f1]
theorem row_block {w : World} {base g n cap : Nat} {ok : Nat → Prop} {xs : List S42} (h : Kd.R k42 42 w base ok (.slice (some ⟨g, 0, none⟩) n cap) xs) :
    n = xs.length ∧ n ≤ cap ∧ cap ≤ maxLen ∧ base ≤ g ∧ ∃ cur : Array Value, w.heap[g]? = some (.cells cur 42 (0, 0)) ∧ cur.size = cap * 2 := by
  obtain ⟨_, inner, ⟨_, h2⟩, _⟩ := h
  rcases h2 with ⟨hv, _⟩ | ⟨g', cap', cur, hv, hb, hh, hnc, hcm, hcs, htk⟩
  · cases hv
  · obtain ⟨rfl, hn, rfl⟩ : g = g' ∧ n = xs.length ∧ cap = cap' := by
      injection hv with ha hn hc
      injection ha with ha
      injection ha with hg'
      exact ⟨hg', hn, hc⟩
    exact ⟨hn, by omega, hcm, hb, cur, hh, hcs⟩
theorem row_make {w : World} {base g cap : Nat} {cur : Array Value} {xs : List S42} (hh : w.heap[g]? = some (.cells cur 42 (0, 0))) (hb : base ≤ g) (hn : xs.length ≤ cap) (hcm : cap ≤ maxLen) (hcs : cur.size = cap * 2)
    (hc : ∀ (j : Nat) (x : S42), xs[j]? = some x → w.cell? ⟨g, j * 2, none⟩ = some (.int .i64 x.f0) ∧ w.cell? ⟨g, j * 2 + 1, none⟩ = some (.int .i64 x.f1)) :
    Kd.R k42 42 w base (fun _ => True) (.slice (some ⟨g, 0, none⟩) xs.length cap) xs := by
  have hcl : cur.toList.length = cap * 2 := by rw [Array.length_toList, hcs]
  have hl : (cur.toList.take (xs.length * 2)).length = xs.length * 2 := by rw [List.length_take, hcl]; omega
  refine ⟨fun _ _ => trivial, cur.toList.take (xs.length * 2), ⟨hl, .inr ⟨g, cap, cur, rfl, hb, hh, hn, hcm, hcs, rfl⟩⟩, hl, fun j x hj => ?_⟩
  obtain ⟨h0, h1⟩ := hc j x hj
  have hjl : j < xs.length := (List.getElem?_eq_some_iff.1 hj).1
  unfold World.cell? at h0 h1
  rw [hh] at h0 h1
  replace h0 : cur[j * 2]? = some (.int .i64 x.f0) := h0
  replace h1 : cur[j * 2 + 1]? = some (.int .i64 x.f1) := h1
  have e : ((cur.toList.take (xs.length * 2)).drop (j * 2)).take 2 = [.int .i64 x.f0, .int .i64 x.f1] := by
    apply List.ext_getElem?
    intro i
    rw [List.getElem?_take, List.getElem?_drop, List.getElem?_take]
    match i with
    | 0 => rw [if_pos (by omega), if_pos (by omega), Nat.add_zero, Array.getElem?_toList, h0]; rfl
    | 1 => rw [if_pos (by omega), if_pos (by omega), Array.getElem?_toList, h1]; rfl
    | i + 2 => rw [if_neg (by omega)]; rfl
  show k42.M w base _ x (((cur.toList.take (xs.length * 2)).drop (j * 2)).take 2)
  rw [e]
  exact k42_mkM _ _ _ x
theorem row_holds {w : World} {base g n cap : Nat} {ok : Nat → Prop} {xs : List S42} (h : Kd.R k42 42 w base ok (.slice (some ⟨g, 0, none⟩) n cap) xs) : Sort.HoldsK encP 2 w g 0 xs.toArray := by
  obtain ⟨_, _, hC⟩ := Kd.R_reads' h
  obtain ⟨_, _, _, _, cur, hh, _⟩ := row_block h
  intro j hj
  rw [Sort.size_flatK, List.size_toArray] at hj
  refine ⟨?_, blk_frozen hh _⟩
  rw [Sort.get_flatK _ _ _ _ (by rw [List.size_toArray]; exact hj)]
  have hj2 : j / 2 < xs.length := by omega
  obtain ⟨ad, e, hx0, hx1⟩ := at_T42 hC ((j / 2 : Nat) : Int) (by omega) (by omega)
  cases e
  rw [Int.toNat_natCast, add_plain] at hx0 hx1
  dsimp only at hx1
  have er : xs.toArray[j / 2]! = rd_T42 xs ((j / 2 : Nat) : Int) := by
    show _ = xs.getD (j / 2) _
    rw [getElem!_pos _ _ (by simpa using hj2), List.getD_eq_getElem?_getD, List.getElem?_eq_getElem hj2]
    simp
  rw [er]
  rcases Nat.mod_two_eq_zero_or_one j with hm | hm
  · rw [hm]
    show w.cell? ⟨g, 0 + j, none⟩ = some (.int .i64 _)
    rw [← hx0]
    congr 2
    omega
  · rw [hm]
    show w.cell? ⟨g, 0 + j, none⟩ = some (.int .i64 _)
    rw [← hx1]
    congr 2
    omega
/-- What the sort's world holds. -/
theorem row_sorted {w : World} {base g n cap : Nat} {ok : Nat → Prop} {xs ys : List S42} (h : Kd.R k42 42 w base ok (.slice (some ⟨g, 0, none⟩) n cap) xs) (hl : ys.length = xs.length) (m : Nat) (os : Array Obj) :
    Kd.R k42 42 (sortWorldK encP 2 w g 0 m ys.toArray os) base (fun _ => True) (.slice (some ⟨g, 0, none⟩) n cap) ys := by
  obtain ⟨hn, hnc, hcm, hb, cur, hh, hcs⟩ := row_block h
  have hH := row_holds h
  have hlt := blk_lt hh
  have hsz : (Sort.putRowK encP 2 (Sort.ahead w m) g 0 ys.toArray).heap.size = w.heap.size := by
    unfold Sort.putRowK
    rw [Sort.size_putRow]
    rfl
  have hcell : ∀ j, (sortWorldK encP 2 w g 0 m ys.toArray os).cell? ⟨g, j, none⟩ = (Sort.putRowK encP 2 (Sort.ahead w m) g 0 ys.toArray).cell? ⟨g, j, none⟩ := by
    intro j
    unfold sortWorldK Sort.grow World.cell?
    dsimp only
    rw [Array.getElem?_append_left (by rw [hsz]; exact hlt)]
  have hheap : (sortWorldK encP 2 w g 0 m ys.toArray os).heap[g]? = some (.cells (Sort.putCells id 0 (Sort.flatK encP 2 ys.toArray) cur) 42 (0, 0)) := by
    unfold sortWorldK Sort.grow
    dsimp only
    rw [Array.getElem?_append_left (by rw [hsz]; exact hlt)]
    unfold Sort.putRowK Sort.putRow Sort.mapBlock Sort.ahead
    dsimp only
    rw [Array.getElem?_modify, if_pos rfl, hh]
    rfl
  subst hn
  rw [← hl]
  refine row_make hheap hb (by omega) hcm (by simp [Sort.putCells, hcs]) fun j x hj => ?_
  have hjl : j < ys.length := (List.getElem?_eq_some_iff.1 hj).1
  have hx : ys.toArray[j]! = x := by
    rw [getElem!_pos _ _ (by simpa using hjl)]
    simpa using (List.getElem?_eq_some_iff.1 hj).2
  have hH' : Sort.HoldsK encP 2 (Sort.ahead w m) g 0 xs.toArray := hH
  have hz : ∀ t, t < ys.length * 2 → (Sort.putRowK encP 2 (Sort.ahead w m) g 0 ys.toArray).cell? ⟨g, t, none⟩ = some ((encP ys.toArray[t / 2]!)[t % 2]!) := by
    intro t ht
    have := Sort.cell?_putRow id (Sort.ahead w m) g 0 (Sort.flatK encP 2 xs.toArray) (Sort.flatK encP 2 ys.toArray) hH' (by simp [hl]) t (by simpa using ht)
    rw [Sort.get_flatK _ _ _ _ (by simpa using ht), Nat.zero_add] at this
    exact this
  rw [hcell, hcell, hz _ (by omega), hz _ (by omega)]
  rw [show j * 2 / 2 = j by omega, show (j * 2 + 1) / 2 = j by omega, show j * 2 % 2 = 0 by omega, show (j * 2 + 1) % 2 = 1 by omega, hx]
  exact ⟨rfl, rfl⟩
theorem row_other {w : World} {g : Nat} {ys : List S42} (m : Nat) (os : Array Obj) : w.grownBy (sortWorldK encP 2 w g 0 m ys.toArray os) (some g) := by
  have hsz : (Sort.putRowK encP 2 (Sort.ahead w m) g 0 ys.toArray).heap.size = w.heap.size := by
    unfold Sort.putRowK
    rw [Sort.size_putRow]
    rfl
  refine ⟨rfl, rfl, rfl, ?_, fun k hk hne => ?_⟩
  · unfold sortWorldK Sort.grow
    dsimp only
    rw [Array.size_append, hsz]
    omega
  · unfold sortWorldK Sort.grow
    dsimp only
    rw [Array.getElem?_append_left (by rw [hsz]; exact hk)]
    unfold Sort.putRowK Sort.putRow Sort.mapBlock Sort.ahead
    dsimp only
    rw [Array.getElem?_modify, if_neg (fun e => hne (by rw [e]))]
def eqP (x y : S42) : Bool := x.f0 == y.f0 && x.f1 == y.f1
theorem eqP_comm (x y : S42) : eqP x y = eqP y x := by
  have h0 : (x.f0 == y.f0) = (y.f0 == x.f0) := by rw [Bool.beq_comm]
  have h1 : (x.f1 == y.f1) = (y.f1 == x.f1) := by rw [Bool.beq_comm]
  rw [eqP, h0, h1]
  rfl
theorem eqP_eq {x y : S42} (h : eqP x y = true) : x = y := by
  obtain ⟨a, b⟩ := x
  obtain ⟨c, d⟩ := y
  simp [eqP] at h
  rw [h.1, h.2]
def dd : List S42 → List S42
  | [] => []
  | [x] => [x]
  | x :: y :: r => if eqP x y = true then dd (y :: r) else x :: dd (y :: r)
theorem dd_snoc : ∀ (l : List S42) (a b : S42), dd (l ++ [a, b]) = dd (l ++ [a]) ++ (if eqP a b = true then [] else [b])
  | [], a, b => by
    by_cases h : eqP a b = true
    · obtain rfl := eqP_eq h
      simp [dd, h]
    · simp [dd, h]
  | [x], a, b => by
    have := dd_snoc [] a b
    simp only [List.nil_append, List.cons_append] at this ⊢
    have e : dd [x, a] = if eqP x a = true then dd [a] else x :: dd [a] := rfl
    rw [dd, e, this]
    by_cases h : eqP x a = true
    · rw [if_pos h, if_pos h]
    · rw [if_neg h, if_neg h]
      simp
  | x :: y :: l, a, b => by
    have ih := dd_snoc (y :: l) a b
    simp only [List.cons_append] at ih ⊢
    by_cases h : eqP x y = true
    · rw [dd, if_pos h, ih, dd, if_pos h]
    · rw [dd, if_neg h, ih, dd, if_neg h]
      simp
theorem dd_take (ts : List S42) (j : Nat) (hj : j + 1 < ts.length) : dd (ts.take (j + 2)) = dd (ts.take (j + 1)) ++ (if eqP (rd_T42 ts (j : Int)) (rd_T42 ts ((j + 1 : Nat) : Int)) = true then [] else [rd_T42 ts ((j + 1 : Nat) : Int)]) := by
  have r0 : ts[j]? = some (rd_T42 ts (j : Int)) := by
    show _ = some (ts.getD j _)
    rw [List.getD_eq_getElem?_getD, List.getElem?_eq_getElem (by omega : j < ts.length)]
    rfl
  have r1 : ts[j + 1]? = some (rd_T42 ts ((j + 1 : Nat) : Int)) := by
    show _ = some (ts.getD (j + 1) _)
    rw [List.getD_eq_getElem?_getD, List.getElem?_eq_getElem hj]
    rfl
  have e2 : ts.take (j + 1) = ts.take j ++ [rd_T42 ts (j : Int)] := by
    rw [List.take_add_one, r0]
    rfl
  have e1 : ts.take (j + 2) = ts.take j ++ [rd_T42 ts (j : Int), rd_T42 ts ((j + 1 : Nat) : Int)] := by
    rw [List.take_add_one, r1, e2, List.append_assoc]
    rfl
  rw [e1, e2, dd_snoc]
theorem pr_guard : Try.prog.eqGuardType Try.prog.depth 42 = false := by kernel_rfl
theorem pr_in (w : World) (a b c d : Int) : (Op.equalIn 10000 42 (.agg #[.int .i64 a, .int .i64 b]) (.agg #[.int .i64 c, .int .i64 d])).run Try.prog w = .ok (a == c && b == d) w := by
  have hu34 := Try.underlying42
  have hu3 := Try.underlying3
  rw [run_equalIn_struct (P := Try.prog) w 9999 42 _ _ (by simp [Program.fieldsOf, hu34]) (by kernel_rfl)]
  simp only [Program.fieldsOf, hu34]
  cases h1 : (a == c) <;> cases h2 : (b == d) <;> go_simp
theorem pr_info : (Try.prog.info? 42).map (·.size) = some 2 := by kernel_rfl
theorem pr_zero : ∀ w : World, (zeroValue 42).run Try.prog w = .ok (.agg #[.int .i64 0, .int .i64 0]) w := fun w => by kernel_rfl
theorem pr_tinfo : ∃ i, Try.prog.info? 42 = some i ∧ i.size = 2 := by
  obtain ⟨i, hi, h⟩ := Option.map_eq_some_iff.1 pr_info
  exact ⟨i, hi, h⟩
theorem pr_elem {w : World} {base g n cap : Nat} {ok : Nat → Prop} {xs : List S42} (h : Kd.R k42 42 w base ok (.slice (some ⟨g, 0, none⟩) n cap) xs) (i : Nat) (hi : i < n) :
    ∃ c : List Value, c.length = k42.sz ∧ ∀ j u, c[j]? = some u → w.cell? ⟨g, (i : Int).toNat * k42.sz + j, none⟩ = some u := by
  obtain ⟨hn, _, hC⟩ := Kd.R_reads' h
  obtain ⟨ad, c, e, hl, hK, hc⟩ := Kd.C_get hC z42 (i : Int) (by omega) (by omega)
  cases e
  refine ⟨c, hl, fun j u hj => ?_⟩
  have := hc j u hj
  rwa [add_plain] at this
theorem pr_clearAt {P : Program} (w : World) (t e ty : TypeId) (z : Value) (ht : P.underlying t = some (.slice e)) (hv : ∀ w, (zeroValue e).run P w = .ok z w) (h1 : ∀ u ∈ z.cells.toList, u.oneCell' = true) (hz : 0 < z.cells.size) (b o n c : Nat) (hn : 0 < n)
    (hc : ∀ j, j < n * z.cells.size → (w.cell? ⟨b, o + j, none⟩).isSome = true) (hf : ∀ j, j < n * z.cells.size → w.frozen? ⟨b, o + j, none⟩ = false) :
    (Builtin.clear_ #[t] ty #[.slice (some ⟨b, o, none⟩) n c]).run P w = .ok (.tuple #[]) (w.setCells b o (Builtin.zeroCells z.cells n).toList) ∧ (Builtin.zeroCells z.cells n).toList.length = n * z.cells.size := by
  have hl : (Builtin.zeroCells z.cells n).toList.length = n * z.cells.size := by simp [Builtin.zeroCells]
  have hst := run_storeCells_cells (P := P) b o (Builtin.zeroCells z.cells n).toList 0 w (by simpa [hl] using hc) (by simpa [hl] using hf) (by
    intro v hv'
    simp only [Builtin.zeroCells, Array.toList_map, Array.toList_range, List.mem_map, List.mem_range] at hv'
    obtain ⟨i, _, rfl⟩ := hv'
    refine h1 _ ?_
    have : i % z.cells.size < z.cells.size := Nat.mod_lt _ hz
    simp [this])
  simp only [Nat.add_zero] at hst
  obtain ⟨m, rfl⟩ : ∃ m, n = m + 1 := ⟨n - 1, by omega⟩
  refine ⟨?_, hl⟩
  simp [Builtin.clear_, run_underlying ht, hv, hst]
theorem pr_tail {α : Type} {d : Kd α} {e base g m cap o : Nat} {ok : Nat → Prop} {w : World} {xs : List α} (h : d.R e w base ok (.slice (some ⟨g, 0, none⟩) m cap) xs) (vs : List Value) (ho : m * d.sz ≤ o) (hl : o + vs.length ≤ cap * d.sz) :
    d.R e (w.setCells g o vs) base ok (.slice (some ⟨g, 0, none⟩) m cap) xs ∧ w.grownBy (w.setCells g o vs) (some g) := by
  obtain ⟨h0, inner, hown, hr⟩ := h
  have hm := (Kd.R_reads' (d := d) (e := e) (w := w) (base := base) (ok := ok) ⟨h0, inner, hown, hr⟩).1
  obtain ⟨h1, h2⟩ := hown
  rcases h2 with ⟨hv, _⟩ | ⟨g', cap', cur, hv, hb, hh, hnc, hcm, hcs, htk⟩
  · cases hv
  · obtain ⟨rfl, rfl⟩ : g = g' ∧ cap = cap' := by
      injection hv with ha _ hc
      injection ha with ha
      injection ha with hg'
      exact ⟨hg', hc⟩
    obtain ⟨cur', hh', hs', ht'⟩ := setCells_row vs o w cur hh (by rw [hcs]; exact hl)
    obtain ⟨s1, s2, s3, s4⟩ := setCells_same g vs o w
    refine ⟨⟨h0, inner, ⟨h1, .inr ⟨g, cap, cur', by rw [hm], hb, hh', hnc, hcm, by rw [hs', hcs], ?_⟩⟩, hr.imp_ (fun p c hp => d.M_move (fun k hk => setCells_far vs o k ?_) hp)⟩, ?_⟩
    · have hcl : cur.toList.length = cap * d.sz := by rw [Array.length_toList, hcs]
      rw [ht', ← htk, List.append_assoc, List.take_append_of_le_length (by rw [List.length_take, hcl, ← hm]; omega), List.take_take, Nat.min_eq_left (by rw [← hm]; exact ho)]
    · intro he
      subst he
      exact hk.2 (by simp [Value.ownBlock])
    · exact ⟨s1, s2, s3, Nat.le_of_eq s4.symm, fun k hk hne => setCells_far vs o k (fun he => hne (by rw [he]))⟩
theorem pr_clearR {w : World} {base g n i cap : Nat} {ok : Nat → Prop} {xs : List S42} (h : Kd.R k42 42 w base ok (.slice (some ⟨g, 0, none⟩) n cap) xs) (hi : i < n) :
    ∃ vs : List Value, (∀ ty, (Builtin.clear_ #[25] ty #[.slice (some ⟨g, i * 2, none⟩) (n - i) (cap - i)]).run Try.prog w = .ok (.tuple #[]) (w.setCells g (i * 2) vs)) ∧ vs.length = (n - i) * 2 := by
  obtain ⟨_, hnc, _, _, cur, hh, hs⟩ := row_block h
  have hm : ∀ ty, _ := fun ty => pr_clearAt (P := Try.prog) w 25 42 ty (.agg #[.int .i64 0, .int .i64 0]) Try.underlying25 pr_zero (by simp [Value.cells, Value.oneCell']) (by simp [Value.cells]) g (i * 2) (n - i) (cap - i) (by omega)
    (fun j hj => by
      have hj : j < (n - i) * 2 := by simpa [Value.cells] using hj
      simp [World.cell?, hh]; omega)
    (fun j hj => blk_frozen hh _)
  exact ⟨_, fun ty => (hm ty).1, by have := (hm 0).2; simpa [Value.cells] using this⟩
structure CInv (ts : List S42) (n i j : Nat) (dk : List S42) : Prop where
  len : dk.length = n
  lt : i < j
  front : dk.take i = dd (ts.take j)
  back : dk.drop (j - 1) = ts.drop (j - 1)
theorem ci_read {ts dk : List S42} {n i j : Nat} (h : CInv ts n i j dk) (t : Nat) (ht : j - 1 ≤ t) : rd_T42 dk (t : Int) = rd_T42 ts (t : Int) := by
  have h2 := congrArg (fun l => l[t - (j - 1)]?) h.back
  simp only [List.getElem?_drop] at h2
  rw [show j - 1 + (t - (j - 1)) = t by omega] at h2
  show dk.getD t _ = ts.getD t _
  rw [List.getD_eq_getElem?_getD, List.getD_eq_getElem?_getD, h2]
theorem ci_step {ts dk : List S42} {n i j : Nat} (h : CInv ts n i j dk) (ht : ts.length = n) (hj : j < n) : dd (ts.take (j + 1)) = dk.take i ++ (if eqP (rd_T42 ts ((j - 1 : Nat) : Int)) (rd_T42 ts (j : Int)) = true then [] else [rd_T42 ts (j : Int)]) := by
  have hlt := h.lt
  have := dd_take ts (j - 1) (by omega)
  rw [show j - 1 + 2 = j + 1 by omega, show j - 1 + 1 = j by omega] at this
  rw [this, h.front]
theorem ci_back {ts dk : List S42} {n i j : Nat} (h : CInv ts n i j dk) : dk.drop j = ts.drop j := by
  have hlt := h.lt
  have := congrArg (List.drop 1) h.back
  rw [List.drop_drop, List.drop_drop, show j - 1 + 1 = j by omega] at this
  exact this
theorem ci_skip {ts dk : List S42} {n i j : Nat} (h : CInv ts n i j dk) (ht : ts.length = n) (hj : j < n) (hq : eqP (rd_T42 ts ((j - 1 : Nat) : Int)) (rd_T42 ts (j : Int)) = true) : CInv ts n i (j + 1) dk :=
  ⟨h.len, by have := h.lt; omega, by rw [ci_step h ht hj, if_pos hq]; simp, ci_back h⟩
theorem ci_keep {ts dk : List S42} {n i j : Nat} (h : CInv ts n i j dk) (ht : ts.length = n) (hj : j < n) (hq : eqP (rd_T42 ts ((j - 1 : Nat) : Int)) (rd_T42 ts (j : Int)) = false) : CInv ts n (i + 1) (j + 1) (dk.set i (rd_T42 ts (j : Int))) := by
  have hl := h.len; have hlt := h.lt
  refine ⟨by rw [List.length_set, hl], by omega, ?_, ?_⟩
  · rw [List.take_add_one, List.getElem?_set_self (by omega), List.take_set_of_le (Nat.le_refl i), ci_step h ht hj, hq]
    simp
  · rw [show j + 1 - 1 = j by omega, List.drop_set_of_lt (by omega)]
    exact ci_back h
theorem ci_start {ts : List S42} {n i : Nat} (ht : ts.length = n) (hd : dd (ts.take (i + 1)) = ts.take i) : CInv ts n i (i + 1) ts :=
  ⟨ht, by omega, hd.symm, rfl⟩
theorem pr_eql (w : World) (a b c d : Int) : (binOp .eql 42 (.agg #[.int .i64 a, .int .i64 b]) (.agg #[.int .i64 c, .int .i64 d])).run Try.prog w = .ok (.bool (eqP ⟨a, b⟩ ⟨c, d⟩)) w := by
  rw [run_eql_struct, pr_in]
  rfl
theorem pr_neq (w : World) (a b c d : Int) : (binOp .neq 42 (.agg #[.int .i64 a, .int .i64 b]) (.agg #[.int .i64 c, .int .i64 d])).run Try.prog w = .ok (.bool (!eqP ⟨a, b⟩ ⟨c, d⟩)) w := by
  rw [run_neq_struct, pr_in]
  rfl
theorem dd_short (ts : List S42) (h : ts.length < 2) : dd ts = ts := by
  match ts, h with
  | [], _ => rfl
  | [x], _ => rfl
set_option maxHeartbeats 4000000 in
set_option maxRecDepth 100000 in
theorem pair_compact (v : Value) (ts : List S42) (w0 w : World) (ok : Nat → Prop)
    (HO : Kd.R k42 42 w w0.heap.size ok v ts) (HB : Below w0.heap.size w0 w) :
    Calls Try.prog 25 #[v] w fun e w' => ∃ v1 : Value, e = .returned v1 ∧ Kd.R k42 42 w' w0.heap.size ok v1 (dd ts) ∧ Below w0.heap.size w0 w' := by
  have hu1 := Try.underlying25
  have hu2 := Try.underlying42
  have hpg := pr_guard
  by_cases hsh : ts.length < 2
  · obtain ⟨A, c, rfl⟩ := Kd.R_slice HO
    have hd := Lib.hid (dd_short ts hsh)
    have HO0 := Aside0.mk HO
    have HB0 := Aside0.mk HB
    clear HO HB
    have hz : (ts.length : Int) < 2 := by omega
    go_enter Try.func25, Try.ntmps25
    go_wp2
    go_ret
    exact ⟨_, rfl, by rw [hd.out]; exact HO0.out, HB0.out⟩
  · obtain ⟨g, c, hv, hbg, hgw, _⟩ := Kd.R_form HO (by omega)
    subst hv
    have hmax := Kd.C_max (Kd.R_reads' HO).2.2
    have hnc := (Kd.R_reads' HO).2.1
    have HO0 := Aside0.mk HO
    have HB0 := Aside0.mk HB
    clear HO HB
    obtain ⟨n, hn⟩ : ∃ n, ts.length = n := ⟨_, rfl⟩
    rw [hn] at hsh hmax hnc HO0 ⊢
    have HN := Lib.hid hn
    clear hn
    have hz : ¬ (n : Int) < 2 := by omega
    go_enter Try.func25, Try.ntmps25
    go_wp2
    go_loopg [3] n (fun gg s3 wr => ∃ kk : Nat, s3 = .int .i64 kk ∧ 1 ≤ kk ∧ kk ≤ n ∧ n - kk ≤ gg ∧ Aside0 (dd (ts.take kk) = ts.take kk) ∧ Aside0 (Kd.R k42 42 wr w0.heap.size ok (.slice (some ⟨g, 0, none⟩) n c) ts) ∧ Aside0 (Below w0.heap.size w0 wr))
    case atStart => exact ⟨1, by go_num, by omega, by omega, by omega, ⟨dd_short _ (by rw [List.length_take]; omega)⟩, HO0, HB0⟩
    case round =>
      clear HO0 HB0
      obtain ⟨kk, rfl, hk1, hkn, hgg, HD, HO, HB⟩ := hrel
      by_cases hlt : kk < n
      · have hltz : (kk : Int) < (n : Int) := by omega
        obtain ⟨ad, ead, hx0, hx1⟩ := at_T42 (Kd.R_reads' HO.out).2.2 (kk : Int) (by omega) (by rw [HN.out]; omega)
        cases ead
        obtain ⟨ad, ead, hy0, hy1⟩ := at_T42 (Kd.R_reads' HO.out).2.2 ((kk - 1 : Nat) : Int) (by omega) (by rw [HN.out]; omega)
        cases ead
        rw [Int.toNat_natCast, add_plain] at hx0 hx1 hy0 hy1
        dsimp only at hx1 hy1
        have hsub : IntKind.i64.wrap ((kk : Int) - 1) = ((kk - 1 : Nat) : Int) := by rw [IntWalk.i64_in _ (by omega)]; omega
        have hb0 : (0 : Int) ≤ ((kk - 1 : Nat) : Int) := by omega
        have hb1 : ((kk - 1 : Nat) : Int) < (n : Int) := by omega
        have hdt := Lib.hid (dd_take ts (kk - 1) (by rw [HN.out]; omega))
        rw [show kk - 1 + 2 = kk + 1 by omega, show kk - 1 + 1 = kk by omega] at hdt
        obtain ⟨x, hx⟩ : ∃ x, rd_T42 ts (kk : Int) = x := ⟨_, rfl⟩
        obtain ⟨y, hy⟩ : ∃ y, rd_T42 ts ((kk - 1 : Nat) : Int) = y := ⟨_, rfl⟩
        have HX := Lib.hid hx
        rw [hx] at hx0 hx1 hdt
        rw [hy] at hy0 hy1 hdt
        clear hx hy
        obtain ⟨a, b⟩ := x
        obtain ⟨d, e⟩ := y
        dsimp only at hx0 hx1 hy0 hy1
        by_cases h1 : a = d
        · subst h1
          by_cases h2 : b = e
          · subst h2
            have hq : eqP ⟨a, b⟩ ⟨a, b⟩ = true := by simp [eqP]
            rw [hq] at hdt
            have HDN := Aside0.mk (show dd (ts.take (kk + 1)) = ts.take kk by
              rw [hdt.out, if_pos rfl, HD.out]
              simp)
            clear hq hdt
            obtain ⟨ti, hti, hts⟩ := pr_tinfo
            have hcut := cut_from (P := Try.prog) 25 42 .i64 hu1 hti 2 hts (some ⟨g, 0, none⟩) n c (kk : Int) (by omega) (by omega)
            rw [if_neg (by rw [Int.toNat_natCast]; omega), Option.map_some, Int.toNat_natCast, add_plain] at hcut
            clear hti hts
            go_wp2
            go_quiet (fail)
            go_wp2
            clear hcut
            have HCI := Aside0.mk (ci_start (i := kk) HN.out HDN.out)
            have HO1 := Aside0.mk (Kd.R_drewN HO.out nq)
            have HB1 := Aside0.mk (pw_below_drewN HB.out nq)
            clear hx0 hx1 hy0 hy1 HD HO HB HDN
            generalize wr.drewN nq = wr1 at *
            go_loopg [3, 5] n (fun gg s3 s5 wr2 => ∃ (i k2 : Nat) (dk : List S42), s3 = .int .i64 i ∧ s5 = .int .i64 k2 ∧ 1 ≤ k2 ∧ kk + k2 ≤ n ∧ n - (kk + k2) ≤ gg ∧ Aside0 (CInv ts n i (kk + k2) dk) ∧ Aside0 (Kd.R k42 42 wr2 w0.heap.size ok (.slice (some ⟨g, 0, none⟩) n c) dk) ∧ Aside0 (Below w0.heap.size w0 wr2))
            case atStart => exact ⟨kk, 1, ts, rfl, by go_num, by omega, by omega, by omega, HCI, HO1, HB1⟩
            case round =>
              clear HO1 HB1 HCI
              obtain ⟨i, k2, dk, rfl, rfl, hk2, hkn2, hgg2, HC, HO2, HB2⟩ := hrel
              have hij := HC.out.lt
              have hlen := Lib.hid HC.out.len
              by_cases hlt2 : kk + k2 < n
              · have hltz2 : (k2 : Int) < ((n - kk : Nat) : Int) := by omega
                obtain ⟨ad, ead, hx0, hx1⟩ := at_T42 (Kd.R_reads' HO2.out).2.2 ((kk + k2 : Nat) : Int) (by omega) (by rw [hlen.out]; omega)
                cases ead
                obtain ⟨ad, ead, hy0, hy1⟩ := at_T42 (Kd.R_reads' HO2.out).2.2 ((kk + k2 - 1 : Nat) : Int) (by omega) (by rw [hlen.out]; omega)
                cases ead
                rw [Int.toNat_natCast, add_plain] at hx0 hx1 hy0 hy1
                dsimp only at hx1 hy1
                rw [show (kk + k2) * 2 = kk * 2 + k2 * 2 by omega] at hx0 hx1
                rw [show (kk + k2 - 1) * 2 = kk * 2 + (k2 - 1) * 2 by omega] at hy0 hy1
                have hsub : IntKind.i64.wrap ((k2 : Int) - 1) = ((k2 - 1 : Nat) : Int) := by rw [IntWalk.i64_in _ (by omega)]; omega
                have hb0 : (0 : Int) ≤ ((k2 - 1 : Nat) : Int) := by omega
                have hb1 : ((k2 - 1 : Nat) : Int) < ((n - kk : Nat) : Int) := by omega
                obtain ⟨x, hx⟩ : ∃ x, rd_T42 dk ((kk + k2 : Nat) : Int) = x := ⟨_, rfl⟩
                obtain ⟨y, hy⟩ : ∃ y, rd_T42 dk ((kk + k2 - 1 : Nat) : Int) = y := ⟨_, rfl⟩
                have HX2 := Lib.hid ((ci_read HC.out (kk + k2) (by omega)).symm.trans hx)
                have HY := Lib.hid ((ci_read HC.out (kk + k2 - 1) (by omega)).symm.trans hy)
                rw [hx] at hx0 hx1
                rw [hy] at hy0 hy1
                clear hx hy
                obtain ⟨a2, b2⟩ := x
                obtain ⟨d2, e2⟩ := y
                dsimp only at hx0 hx1 hy0 hy1
                by_cases h1 : a2 = d2
                · subst h1
                  by_cases h2 : b2 = e2
                  · subst h2
                    have hq : eqP ⟨a2, b2⟩ ⟨a2, b2⟩ = true := by simp [eqP]
                    have HC2 := Aside0.mk (ci_skip HC.out HN.out (by omega : kk + k2 < n) (by rw [HY.out, HX2.out]; exact hq))
                    clear hq HX2 HY
                    go_wp2
                    go_quiet (fail)
                    go_wp2
                    go_roundg (n - (kk + (k2 + 1)))
                    case measure => omega
                    case rel => exact ⟨i, k2 + 1, dk, rfl, by go_num, by omega, by omega, Nat.le_refl _, HC2, ⟨Kd.R_drewN HO2.out _⟩, ⟨pw_below_drewN HB2.out _⟩⟩
                  · skip
                    have hq : eqP ⟨a2, e2⟩ ⟨a2, b2⟩ = false := by simp [eqP, Ne.symm h2]
                    have HC2 := Aside0.mk (ci_keep HC.out HN.out (by omega : kk + k2 < n) (by rw [HY.out, HX2.out]; exact hq))
                    rw [HX2.out] at HC2
                    clear hq HX2 HY
                    obtain ⟨cc, hcl, hcc⟩ := pr_elem HO2.out i (by omega)
                    have HCL := Aside0.mk hcl
                    have HCC := Aside0.mk hcc
                    clear hcl hcc
                    go_wp2
                    go_quiet (fail)
                    have hcd : ∀ j u, cc[j]? = some u → (wr.drewN nq).cell? ⟨g, (i : Int).toNat * k42.sz + j, none⟩ = some u := fun j u h => HCC.out j u h
                    have HCD := Aside0.mk hcd
                    clear hcd
                    go_wp2_with (refine Kd.R_store k42 (w0 := w0) w0.heap.size rfl rfl 42 (.tmp 51) (.tmp 50) rfl 42 (i : Int) 0 dk ⟨a2, b2⟩ (.agg #[.int .i64 a2, .int .i64 b2]) [.int .i64 a2, .int .i64 b2] cc ok (fun _ => False) rfl (by rfl) rfl rfl pr_info (by simp [Value.oneCell']) (Kd.R_drewN HO2.out nq) (by omega) (by omega) HCL.out HCD.out (Nat.le_refl _) ?hM (fun _ h_ => h_.elim) (pw_below_drewN HB2.out nq) ?hk)
                    case hM =>
                      have e1 : List.take 0 cc ++ [.int .i64 a2, .int .i64 b2] ++ List.drop (0 + [Value.int .i64 a2, .int .i64 b2].length) cc = [.int .i64 a2, .int .i64 b2] := by
                        rw [List.drop_of_length_le (by rw [HCL.out]; exact Nat.le_refl _)]; rfl
                      rw [e1]
                      exact k42_mkM _ _ _ ⟨a2, b2⟩
                    case hk =>
                      intro w3 hr3 hb3 hg3
                      have HR3 := Aside0.mk hr3
                      have HB3 := Aside0.mk hb3
                      clear hr3 hb3 hg3
                      go_wp2
                      go_roundg (n - (kk + (k2 + 1)))
                      case measure => omega
                      case rel => exact ⟨i + 1, k2 + 1, dk.set i ⟨a2, b2⟩, by go_num, by go_num, by omega, by omega, Nat.le_refl _, HC2, ⟨HR3.out⟩, ⟨HB3.out⟩⟩
                · skip
                  have hq : eqP ⟨d2, e2⟩ ⟨a2, b2⟩ = false := by simp [eqP, Ne.symm h1]
                  have HC2 := Aside0.mk (ci_keep HC.out HN.out (by omega : kk + k2 < n) (by rw [HY.out, HX2.out]; exact hq))
                  rw [HX2.out] at HC2
                  clear hq HX2 HY
                  obtain ⟨cc, hcl, hcc⟩ := pr_elem HO2.out i (by omega)
                  have HCL := Aside0.mk hcl
                  have HCC := Aside0.mk hcc
                  clear hcl hcc
                  go_wp2
                  go_quiet (fail)
                  have hcd : ∀ j u, cc[j]? = some u → (wr.drewN nq).cell? ⟨g, (i : Int).toNat * k42.sz + j, none⟩ = some u := fun j u h => HCC.out j u h
                  have HCD := Aside0.mk hcd
                  clear hcd
                  go_wp2_with (refine Kd.R_store k42 (w0 := w0) w0.heap.size rfl rfl 42 (.tmp 51) (.tmp 50) rfl 42 (i : Int) 0 dk ⟨a2, b2⟩ (.agg #[.int .i64 a2, .int .i64 b2]) [.int .i64 a2, .int .i64 b2] cc ok (fun _ => False) rfl (by rfl) rfl rfl pr_info (by simp [Value.oneCell']) (Kd.R_drewN HO2.out nq) (by omega) (by omega) HCL.out HCD.out (Nat.le_refl _) ?hM (fun _ h_ => h_.elim) (pw_below_drewN HB2.out nq) ?hk)
                  case hM =>
                    have e1 : List.take 0 cc ++ [.int .i64 a2, .int .i64 b2] ++ List.drop (0 + [Value.int .i64 a2, .int .i64 b2].length) cc = [.int .i64 a2, .int .i64 b2] := by
                      rw [List.drop_of_length_le (by rw [HCL.out]; exact Nat.le_refl _)]; rfl
                    rw [e1]
                    exact k42_mkM _ _ _ ⟨a2, b2⟩
                  case hk =>
                    intro w3 hr3 hb3 hg3
                    have HR3 := Aside0.mk hr3
                    have HB3 := Aside0.mk hb3
                    clear hr3 hb3 hg3
                    go_wp2
                    go_roundg (n - (kk + (k2 + 1)))
                    case measure => omega
                    case rel => exact ⟨i + 1, k2 + 1, dk.set i ⟨a2, b2⟩, by go_num, by go_num, by omega, by omega, Nat.le_refl _, HC2, ⟨HR3.out⟩, ⟨HB3.out⟩⟩
              · have hltz2 : ¬ (k2 : Int) < ((n - kk : Nat) : Int) := by omega
                have hjn : kk + k2 = n := by omega
                have hil : i < n := by omega
                obtain ⟨vs, hcl, hvl⟩ := pr_clearR HO2.out hil
                have HVL := Lib.hid hvl
                obtain ⟨ti, hti, hts⟩ := pr_tinfo
                have hcut := cut_from (P := Try.prog) 25 42 .i64 hu1 hti 2 hts (some ⟨g, 0, none⟩) n c (i : Int) (by omega) (by omega)
                rw [if_neg (by rw [Int.toNat_natCast]; omega), Option.map_some, Int.toNat_natCast, add_plain] at hcut
                clear hvl hti hts
                go_wp2
                go_ret
                have hfr : dk.take i = dd ts := by rw [HC.out.front, List.take_of_length_le (by rw [HN.out]; omega)]
                obtain ⟨_, hnc2, _, _, _⟩ := row_block HO2.out
                obtain ⟨hR, hG⟩ := pr_tail (Kd.R_take HO2.out (by rw [hlen.out]; omega : i ≤ dk.length)) (o := i * 2) vs (Nat.le_refl _) (by
                  rw [HVL.out]
                  show i * 2 + (n - i) * 2 ≤ c * 2
                  omega)
                rw [hfr] at hR
                exact ⟨_, rfl, hR, HB2.out.trans ⟨hG.os, hG.tape, hG.output, hG.size, fun k hk => (setCells_far vs _ k (by omega))⟩⟩
          · skip
            have hq : eqP ⟨a, e⟩ ⟨a, b⟩ = false := by simp [eqP, Ne.symm h2]
            rw [hq] at hdt
            have HDN := Aside0.mk (show dd (ts.take (kk + 1)) = ts.take (kk + 1) by
              rw [hdt.out, if_neg (by simp), HD.out, List.take_add_one]
              congr 1
              have : ts[kk]? = some (rd_T42 ts (kk : Int)) := by
                show _ = some (ts.getD kk _)
                rw [List.getD_eq_getElem?_getD, List.getElem?_eq_getElem (by rw [HN.out]; exact hlt)]
                rfl
              rw [this, HX.out]
              rfl)
            clear hq hdt
            go_wp2
            go_quiet (fail)
            go_wp2
            go_roundg (n - (kk + 1))
            case measure => omega
            case rel => exact ⟨kk + 1, by go_num, by omega, by omega, Nat.le_refl _, HDN, ⟨Kd.R_drewN HO.out _⟩, ⟨pw_below_drewN HB.out _⟩⟩
        · skip
          have hq : eqP ⟨d, e⟩ ⟨a, b⟩ = false := by simp [eqP, Ne.symm h1]
          rw [hq] at hdt
          have HDN := Aside0.mk (show dd (ts.take (kk + 1)) = ts.take (kk + 1) by
            rw [hdt.out, if_neg (by simp), HD.out, List.take_add_one]
            congr 1
            have : ts[kk]? = some (rd_T42 ts (kk : Int)) := by
              show _ = some (ts.getD kk _)
              rw [List.getD_eq_getElem?_getD, List.getElem?_eq_getElem (by rw [HN.out]; exact hlt)]
              rfl
            rw [this, HX.out]
            rfl)
          clear hq hdt
          go_wp2
          go_quiet (fail)
          go_wp2
          go_roundg (n - (kk + 1))
          case measure => omega
          case rel => exact ⟨kk + 1, by go_num, by omega, by omega, Nat.le_refl _, HDN, ⟨Kd.R_drewN HO.out _⟩, ⟨pw_below_drewN HB.out _⟩⟩
      · have hltz : ¬ (kk : Int) < (n : Int) := by omega
        obtain rfl : kk = n := by omega
        go_wp2
        go_ret
        exact ⟨_, rfl, by have := HD.out; rw [List.take_of_length_le (by rw [HN.out]; exact Nat.le_refl _)] at this; rw [this]; exact HO.out, HB.out⟩
def lkRaw (L : List S42) : List S42 := (L.filter fun p => !(p.f0 == p.f1)).map fun p => ⟨min p.f0 p.f1, max p.f0 p.f1⟩
def lkL (L : List S42) : List S42 := dd ((lkRaw L).mergeSort fun x y => !ltP y x)
def match_Links.f (k : Nat) (L : List S42) : Option (List S42) := if L.length ≤ 1000000 then some (lkL L) else none
theorem match_Links.mono : ∀ a0 k, LeO (match_Links.f k a0) (match_Links.f (k + 1) a0) := fun _ _ => LeO.refl _
theorem lk_snoc (L : List S42) (j : Nat) (h : j < L.length) : lkRaw (L.take (j + 1)) = lkRaw (L.take j) ++ (if (rd_T42 L (j : Int)).f0 = (rd_T42 L (j : Int)).f1 then [] else [⟨min (rd_T42 L (j : Int)).f0 (rd_T42 L (j : Int)).f1, max (rd_T42 L (j : Int)).f0 (rd_T42 L (j : Int)).f1⟩]) := by
  have r0 : L[j]? = some (rd_T42 L (j : Int)) := by
    show _ = some (L.getD j _)
    rw [List.getD_eq_getElem?_getD, List.getElem?_eq_getElem h]
    rfl
  unfold lkRaw
  rw [List.take_add_one, r0, List.filter_append, List.map_append]
  by_cases e : (rd_T42 L (j : Int)).f0 = (rd_T42 L (j : Int)).f1
  · simp [e]
  · simp [e]
theorem lk_len (L : List S42) : (lkRaw L).length ≤ L.length := by
  unfold lkRaw
  rw [List.length_map]
  exact List.length_filter_le _ _
theorem ltP_iff (x y : S42) : ltP x y = true ↔ x.f0 < y.f0 ∨ (x.f0 = y.f0 ∧ x.f1 < y.f1) := by simp [ltP]
theorem lt_cmp (x y : S42) : ltOf cmpP x y = ltP x y := by
  unfold ltOf cmpP
  cases h : ltP x y with
  | true => simp
  | false => cases h2 : ltP y x <;> simp
theorem swoP : Sort.SWO (ltOf cmpP) where
  irrefl x := by rw [lt_cmp, ← Bool.not_eq_true, ltP_iff]; omega
  trans x y z h1 h2 := by rw [lt_cmp, ltP_iff] at *; omega
  ntrans x y z h1 h2 := by rw [lt_cmp, ← Bool.not_eq_true, ltP_iff] at *; omega
theorem lk_T (x y : S42) (h1 : ltOf cmpP x y = false) (h2 : ltOf cmpP y x = false) : x = y := by
  rw [lt_cmp, ← Bool.not_eq_true, ltP_iff] at h1 h2
  obtain ⟨a, b⟩ := x
  obtain ⟨c, d⟩ := y
  dsimp only at h1 h2
  have e1 : a = c := by omega
  have e2 : b = d := by omega
  rw [e1, e2]
theorem lk_tok (w : World) (base : Nat) (ok : Nat → Prop) (a b : Int) : k42.M w base ok ⟨a, b⟩ [.int .i64 a, .int .i64 b] := k42_mkM w base ok ⟨a, b⟩
theorem pr_full : (Try.prog.info? 42).map (fun i => (i.zero, i.size, i.bytes)) = some (some (.agg #[.int .i64 0, .int .i64 0]), 2, 16) := by kernel_rfl
set_option maxHeartbeats 2000000 in
/-- The sort at a row of the call's own. -/
theorem lk_sort (Bc g n cap : Nat) (xs : List S42) (w0 w : World) (ok : Nat → Prop) (HO : Kd.R k42 42 w w0.heap.size ok (.slice (some ⟨g, 0, none⟩) n cap) xs) (HB : Below w0.heap.size w0 w) (hsz : n ≤ 1000000)
    (hc : w.cell? ⟨Bc, 0, none⟩ = some (.func (.func 22) #[] #[])) (hne : Bc ≠ g) :
    Calls Try.prog 23 #[.slice (some ⟨g, 0, none⟩) n cap, .func (.func 24) #[] #[.pointer (some ⟨Bc, 0, none⟩)]] w fun e w' =>
      e = .returned (.tuple #[]) ∧ Kd.R k42 42 w' w0.heap.size (fun _ => True) (.slice (some ⟨g, 0, none⟩) n cap) (xs.mergeSort fun x y => !ltP y x) ∧ Below w0.heap.size w0 w' := by
  obtain ⟨hn, hnc, hcm, hb, cur, hh, hcs⟩ := row_block HO
  have eg : ∀ args w, (callFunc 24 args).run Try.prog w = .ok (.enter 24 args) w := enters_of Try.func24 (by kernel_rfl) rfl
  have hcmp : CmpLays Try.prog 24 #[.pointer (some ⟨Bc, 0, none⟩)] encP 2 cmpP g 0 xs.toArray.size w := by
    intro m os dk hdk x y
    have hcell : (sortWorldK encP 2 w g 0 m dk os).cell? ⟨Bc, 0, none⟩ = some (.func (.func 22) #[] #[]) := by
      have := row_other (w := w) (g := g) (ys := dk.toList) m os
      rw [Array.toArray_toList] at this
      exact mcell_grown this hc (by simpa using hne)
    exact (lk_closure Bc x y _ hcell).mono fun e w' h => ⟨h.1, 0, h.2⟩
  have hs := AnyQ.slices_SortFunc_total Try.sortPair 2 Try.isAgg42 Try.sizeOf42 encP (fun _ => rfl) (fun x v hv => by simp [encP] at hv; rcases hv with rfl | rfl <;> rfl) cmpP swoP 24 #[.pointer (some ⟨Bc, 0, none⟩)] g 0 cap xs.toArray w eg hcmp (row_holds HO) (blk_lt hh) (by rw [List.size_toArray, ← hn]; omega) lk_T
  rw [List.size_toArray, ← hn] at hs
  refine hs.mono ?_
  rintro e w' ⟨rfl, m, os, rfl⟩
  have el : (xs.toArray.toList.mergeSort fun x y => !(ltOf cmpP) y x) = xs.mergeSort fun x y => !ltP y x := by
    simp only [lt_cmp]
  rw [el]
  refine ⟨rfl, row_sorted HO (by rw [List.length_mergeSort]) m os, ?_⟩
  have hgr := row_other (w := w) (g := g) (ys := xs.mergeSort fun x y => !ltP y x) m os
  exact HB.trans ⟨hgr.os, hgr.tape, hgr.output, Nat.le_trans HB.size hgr.size |> fun _ => hgr.size, fun k hk => hgr.block k (Nat.lt_of_lt_of_le hk HB.size) (by simp; omega)⟩
set_option maxHeartbeats 4000000 in
set_option maxRecDepth 100000 in
theorem match_Links.calls (k : Nat) (A0 : Option Addr) (c0 : Nat) (l0 : List S42) (r : List S42) (w : World) (hr0 : Kd.C k42 w A0 l0.length l0) (hc0 : l0.length ≤ c0) (h : match_Links.f k l0 = some r) :
    Calls Try.prog 12 #[.slice A0 l0.length c0] w fun e w' => ∃ v0_ : Value, e = .returned (v0_) ∧ Kd.R k42 42 w' w.heap.size (fun _ => True) v0_ r ∧ Below w.heap.size w w' := by
  have hu34 := Try.underlying42
  have hu22 := Try.underlying25
  have hu73 := Try.underlying57
  unfold match_Links.f at h
  by_cases hok : l0.length ≤ 1000000
  · rw [if_pos hok] at h
    obtain rfl := Option.some.inj h
    clear h
    have HC0 := Lib.hid hr0
    clear hr0
    obtain ⟨n, hn⟩ : ∃ n, l0.length = n := ⟨_, rfl⟩
    rw [hn] at hok hc0 ⊢
    have HN := Lib.hid hn
    clear hn
    have hmax : n ≤ 9223372036854775807 := by omega
    go_enter Try.func12, Try.ntmps12
    go_wp2
    go_loopg [3, 5, 9] n (fun gg s3 _ s9 wr => ∃ j : Nat, s9 = .int .i64 j ∧ j ≤ n ∧ n - j ≤ gg ∧ Aside0 (Kd.R k42 42 wr w.heap.size (fun _ => True) s3 (lkRaw (l0.take j))) ∧ Aside0 (Below w.heap.size w wr))
    case atStart => exact ⟨0, rfl, by omega, by omega, ⟨Kd.R_nil _ _ _ _ _⟩, ⟨Below.refl _ _⟩⟩
    case round =>
      obtain ⟨j, rfl, hj, hgj, HO, HB⟩ := hrel
      by_cases hlt : j < n
      · have hltz : (j : Int) < (n : Int) := by omega
        obtain ⟨ad1, ead1, hx0, hx1⟩ := at_T42 (Kd.C_below HC0.out HB.out) (j : Int) (by omega) (by rw [HN.out]; omega)
        rw [Int.toNat_natCast] at hx0 hx1
        have hsn := Lib.hid (lk_snoc l0 j (by rw [HN.out]; exact hlt))
        have hll : (lkRaw (l0.take j)).length ≤ 1000000 := by
          refine Nat.le_trans (lk_len _) ?_
          rw [List.length_take, HN.out]
          omega
        obtain ⟨l, hl⟩ : ∃ l, lkRaw (l0.take j) = l := ⟨_, rfl⟩
        rw [hl] at HO hsn hll
        clear hl
        generalize rd_T42 l0 (j : Int) = x at hx0 hx1 hsn
        obtain ⟨a, b⟩ := x
        dsimp only at hx0 hx1 hsn
        cases ead1
        by_cases hab : a = b
        · subst hab
          have HX := Lib.hid (show lkRaw (l0.take (j + 1)) = l by rw [hsn.out, if_pos rfl, List.append_nil])
          clear hsn
          go_wp2
          go_roundg (n - (j + 1))
          case measure => omega
          case rel => exact ⟨j + 1, by go_num, by omega, Nat.le_refl _, ⟨by rw [HX.out]; exact Kd.R_alloc HO.out _⟩, ⟨below_alloc HB.out _⟩⟩
        · have bab : (a == b) = false := beq_eq_false_iff_ne.2 hab
          have HO2 := Aside0.mk (Kd.R_alloc HO.out (.cells #[.int .i64 a, .int .i64 b] 42))
          have HB2 := Aside0.mk (below_alloc HB.out (.cells #[.int .i64 a, .int .i64 b] 42))
          clear HO HB
          rcases Int.lt_or_gt_of_ne hab with h1 | h1
          · have h2 : ¬ b < a := by omega
            have HX := Lib.hid (show lkRaw (l0.take (j + 1)) = l ++ [⟨a, b⟩] by rw [hsn.out, if_neg hab, show min a b = a by omega, show max a b = b by omega])
            clear hsn
            go_wp2_with (at_builtin; refine Kd.R_append k42 (w0 := w) w.heap.size rfl _ _ 25 42 (.agg #[.int .i64 0, .int .i64 0]) 16 rfl Try.underlying25 pr_full rfl (by decide) (by decide) u3 l ⟨a, b⟩ [.int .i64 a, .int .i64 b] (fun _ => True) (fun _ => False) rfl (by rw [World.size_alloc]; rfl) (lk_tok _ _ _ _ _) (fun _ h_ => h_.elim) (fun _ _ => trivial) HO2.out HB2.out HB2.out.size ?hl ?hk)
            case hl => omega
            case hk =>
              intro v1 w3 ho hb hgr hat
              have HO3 := Aside0.mk ho
              have HB3 := Aside0.mk hb
              clear ho hb hgr hat
              go_wp2
              go_roundg (n - (j + 1))
              case measure => omega
              case rel => exact ⟨j + 1, by go_num, by omega, Nat.le_refl _, ⟨by rw [HX.out]; exact HO3.out⟩, ⟨HB3.out⟩⟩
          · have h2 : ¬ a < b := by omega
            have h3 : b < a := h1
            have HX := Lib.hid (show lkRaw (l0.take (j + 1)) = l ++ [⟨b, a⟩] by rw [hsn.out, if_neg hab, show min a b = b by omega, show max a b = a by omega])
            clear hsn
            go_wp2_with (at_builtin; refine Kd.R_append k42 (w0 := w) w.heap.size rfl _ _ 25 42 (.agg #[.int .i64 0, .int .i64 0]) 16 rfl Try.underlying25 pr_full rfl (by decide) (by decide) u3 l ⟨b, a⟩ [.int .i64 b, .int .i64 a] (fun _ => True) (fun _ => False) rfl (by rw [World.size_alloc]; rfl) (lk_tok _ _ _ _ _) (fun _ h_ => h_.elim) (fun _ _ => trivial) HO2.out HB2.out HB2.out.size ?hl ?hk)
            case hl => omega
            case hk =>
              intro v1 w3 ho hb hgr hat
              have HO3 := Aside0.mk ho
              have HB3 := Aside0.mk hb
              clear ho hb hgr hat
              go_wp2
              go_roundg (n - (j + 1))
              case measure => omega
              case rel => exact ⟨j + 1, by go_num, by omega, Nat.le_refl _, ⟨by rw [HX.out]; exact HO3.out⟩, ⟨HB3.out⟩⟩
      · have hltz : ¬ (j : Int) < (n : Int) := by omega
        obtain rfl : j = n := by omega
        have hall : lkRaw (l0.take j) = lkRaw l0 := by rw [List.take_of_length_le (by rw [HN.out]; exact Nat.le_refl _)]
        rw [hall] at HO
        have hll : (lkRaw l0).length ≤ 1000000 := Nat.le_trans (lk_len _) (by rw [HN.out]; exact hok)
        by_cases hem : (lkRaw l0).length = 0
        · have hnil : lkRaw l0 = [] := List.length_eq_zero_iff.1 hem
          have hres : Hid (lkL l0 = dd []) := Lib.hid (by unfold lkL; rw [hnil, List.mergeSort_nil])
          rw [hnil] at HO
          obtain ⟨p, cap, rfl⟩ := Kd.R_slice HO.out
          have HO2 := Aside0.mk (Kd.R_alloc HO.out (.cells #[.func (.func 22) #[] #[]] 57))
          have HB2 := Aside0.mk (below_alloc HB.out (.cells #[.func (.func 22) #[] #[]] 57))
          have HS := Aside0.mk (show Calls Try.prog 23 #[.slice p 0 cap, .func (.func 24) #[] #[.pointer (some ⟨wr.heap.size, 0, none⟩)]] (wr.alloc (.cells #[.func (.func 22) #[] #[]] 57)) _ from AnyF.slices_SortFunc_none Try.sortPair p cap _ _)
          have HC := Aside0.mk (pair_compact _ _ w _ _ HO2.out HB2.out)
          clear HO HB hem hnil HO2 HB2
          go_wp2_with fail
          refine HS.out.mono ?_
          rintro e w3 ⟨rfl, rfl⟩
          go_wp2_with fail
          refine HC.out.mono ?_
          rintro e w4 ⟨v1, rfl, ho, hb⟩
          have HO3 := Aside0.mk ho
          have HB3 := Aside0.mk hb
          clear ho hb HC
          go_wp2
          go_ret
          exact ⟨v1, rfl, by rw [hres.out]; exact HO3.out, HB3.out⟩
        · obtain ⟨g, cap, hv, hbg, hgw, cells, hgh⟩ := Kd.R_form HO.out (by omega)
          subst hv
          have HO2 := Aside0.mk (Kd.R_alloc HO.out (.cells #[.func (.func 22) #[] #[]] 57))
          have HB2 := Aside0.mk (below_alloc HB.out (.cells #[.func (.func 22) #[] #[]] 57))
          have hs := lk_sort wr.heap.size g (lkRaw l0).length cap (lkRaw l0) w (wr.alloc (.cells #[.func (.func 22) #[] #[]] 57)) (fun _ => True) HO2.out HB2.out hll (mb_cell1 (blk_new wr _)) (by omega)
          have HS := Aside0.mk hs
          clear hs hgh HO HB
          go_wp2_with fail
          refine HS.out.mono ?_
          rintro e w3 ⟨rfl, ho, hb⟩
          have HC := Aside0.mk (pair_compact _ _ w w3 _ ho hb)
          clear ho hb HS HO2 HB2
          go_wp2_with fail
          refine HC.out.mono ?_
          rintro e w4 ⟨v1, rfl, ho, hb⟩
          have HO3 := Aside0.mk ho
          have HB3 := Aside0.mk hb
          clear ho hb HC
          go_wp2
          go_ret
          exact ⟨v1, rfl, HO3.out, HB3.out⟩
  · rw [if_neg hok] at h
    cases h



end Go.Proofs.Ytfmbfnjlennfoaa.QN
