-- Laid by this claim's own program (mprint.py in the repo).
import Derived.Test.YthgjieigpfcekaaQGx0
import Derived.Test.YthgjieigpfcekaaQGx2
namespace Go.Proofs.Ythgjieigpfcekaa.QG
open Go.RowKit Go.Proofs.YthgjieigpfcekaaW.PrintWords Go.Proofs.YthgjieigpfcekaaW.PrintLast Go.Proofs.YthgjieigpfcekaaW.PrintMore
attribute [local go_sem] max2_int min2_int max_two min_two max_three min_three max_four min_four   -- for this text's walks alone
set_option linter.unusedVariables false
set_option linter.unusedSimpArgs false

/-! ### graph_Family: function 32 -/
open Go.Maps in
/-- A map[int]bool of the call's own, block b, of at most n entries: the numbers of S are true in it. -/
def MB (w : World) (b n : Nat) (S : List Int) : Prop := ∃ D : DataW Unit, w.ownsMap Try.prog 3 (plainElem Try.prog 4) b n D ∧ IsMap D ∧ ∀ i : Int, D.atKey (.int .i64 i) (.lit (.bool false)) = .lit (.bool (S.contains i))
def okI (i : Int) : Bool := (Lit.int .i64 i).wf
theorem mb_keyed : Maps.Keyed Try.prog 3 := Maps.int_keyed Try.underlying3
theorem mb_zero (w : World) : (zeroValue 4).run Try.prog w = .ok (.bool false) w := by kernel_rfl
theorem mb_made (w : World) : MB (w.alloc (.map #[] 0)) w.heap.size 0 [] :=
  ⟨.map [], World.ownsMap_made w _ _ _, Maps.isMap_empty, fun i => rfl⟩
theorem mb_mono {w : World} {b n n' : Nat} {S : List Int} (h : MB w b n S) (hn : n ≤ n') : MB w b n' S := by
  obtain ⟨D, h1, h2, h3⟩ := h
  exact ⟨D, h1.mono hn, h2, h3⟩
theorem mb_congr {w : World} {b n : Nat} {S S' : List Int} (h : MB w b n S) (hs : ∀ i, S.contains i = S'.contains i) : MB w b n S' := by
  obtain ⟨D, h1, h2, h3⟩ := h
  exact ⟨D, h1, h2, fun i => by rw [h3, hs]⟩
theorem mb_lt {w : World} {b n : Nat} {S : List Int} (h : MB w b n S) : b < w.heap.size := by
  obtain ⟨D, h1, _⟩ := h
  exact h1.lt
theorem mb_kept {w w' : World} {b n : Nat} {S : List Int} {row : Option Nat} (h : MB w b n S) (hg : w.grownBy w' row) (hne : some b ≠ row) : MB w' b n S := by
  obtain ⟨D, h1, h2, h3⟩ := h
  exact ⟨D, h1.kept hg hne, h2, h3⟩
theorem mb_below {w w' : World} {b n : Nat} {S : List Int} (h : MB w b n S) (hb : Below w.heap.size w w') : MB w' b n S := mb_kept h (grown_of_below hb none) (by simp)
set_option maxRecDepth 100000 in
theorem plainElem_bool_inv {v : Value} {z : DataW Unit × List MemPlace} (h : plainElem Try.prog 4 v = some z) : ∃ x, v = .bool x ∧ z = (.lit (.bool x), []) := by
  unfold plainElem at h
  rw [Try.underlying4] at h
  cases v <;> simp at h
  obtain rfl := h
  exact ⟨_, rfl, rfl⟩
set_option maxRecDepth 100000 in
theorem mb_look {w : World} {b n : Nat} {S : List Int} (h : MB w b n S) (i : Int) (hi : okI i = true) : (Instr.lookup 78 (.map (some b)) (.int .i64 i) false).run Try.prog w = .ok (.bool (S.contains i)) w := by
  obtain ⟨D, h1, _, h3⟩ := h
  obtain ⟨v, ps, hrun, hv⟩ := h1.lookup mb_keyed Try.underlying78 (mb_zero w) (plainElem_bool Try.underlying4 false) (Maps.keyOf_int_mk Try.underlying3 hi)
  obtain ⟨x, rfl, hx⟩ := plainElem_bool_inv hv
  rw [h3] at hx
  simp only [Prod.mk.injEq] at hx
  have h4 : S.contains i = x := by
    have := hx.1
    injection this with this
    injection this
  rw [h4]
  exact hrun
set_option maxRecDepth 100000 in
theorem mb_put {w : World} {b n : Nat} {S : List Int} (h : MB w b n S) (hn : n < maxLen) (i : Int) (hi : okI i = true) :
    ∃ w', (Instr.mapUpdate 78 (.map (some b)) (.int .i64 i) (.bool true)).run Try.prog w = .ok () w' ∧ MB w' b (n + 1) (i :: S) ∧ w.grownBy w' (some b) := by
  obtain ⟨D, h1, h2, h3⟩ := h
  obtain ⟨w', hrun, ho, hg⟩ := h1.update mb_keyed Try.underlying78 hn (Maps.keyOf_int_mk Try.underlying3 hi) (plainElem_bool Try.underlying4 true)
  refine ⟨w', hrun, ⟨_, ho, h2.put _ _, fun j => ?_⟩, hg⟩
  by_cases e : j = i
  · subst e
    rw [Maps.atKey_put_same h2 (by first | exact trivial | simp [WideAt.IsKeyLit] | decide)]
    simp
  · rw [Maps.atKey_put_other (by intro h; injection h with _ h; exact e h), h3]
    rw [List.contains_cons]
    simp [e]
theorem mb_insert {ops : Array Oper} {rest : List Oper} {o : Oper} {a : Act} {w : World} {Q : Exit → Act → World → Prop} (hg : o.guard = none) (m x : Operand) (ho : o.op = Op.insert 78 m x (.const (.bool true))) (b n : Nat) (S : List Int) (i : Int)
    (hm : a.eval m = .map (some b)) (hx : a.eval x = .int .i64 i) (hM : MB w b n S) (hn : n < maxLen) (hi : okI i = true) (h : ∀ w1, MB w1 b (n + 1) (i :: S) → w.grownBy w1 (some b) → wpList Try.prog ops Q rest (a.put o.dst undef) w1) :
    wpList Try.prog ops Q (o :: rest) a w := by
  obtain ⟨w1, hrun, h1, h2⟩ := mb_put hM hn i hi
  refine wpList_plain hg fun K' hK' => ?_
  have hv : a.eval (.const (.bool true)) = .bool true := rfl
  unfold Oper.wp
  simp [execOp, ho, hm, hx, hv, hrun, Result.andThen]
  exact hK' _ _ (h w1 h1 h2)
theorem mb_store {ops : Array Oper} {rest : List Oper} {o : Oper} {a : Act} {w : World} {Q : Exit → Act → World → Prop} (hg : o.guard = none) (m x : Operand) (ho : o.op = Op.mapUpdate 78 m x (.const (.bool true))) (b n : Nat) (S : List Int) (i : Int)
    (hm : a.eval m = .map (some b)) (hx : a.eval x = .int .i64 i) (hM : MB w b n S) (hn : n < maxLen) (hi : okI i = true) (h : ∀ w1, MB w1 b (n + 1) (i :: S) → w.grownBy w1 (some b) → wpList Try.prog ops Q rest (a.put o.dst undef) w1) :
    wpList Try.prog ops Q (o :: rest) a w := by
  obtain ⟨w1, hrun, h1, h2⟩ := mb_put hM hn i hi
  refine wpList_plain hg fun K' hK' => ?_
  have hv : a.eval (.const (.bool true)) = .bool true := rfl
  unfold Oper.wp
  simp [execOp, ho, hm, hx, hv, hrun, Result.andThen]
  exact hK' _ _ (h w1 h1 h2)
/-- What a store into the map makes of the world. -/
noncomputable def mapPut (w : World) (b : Nat) (i : Int) : World := match (Instr.mapUpdate 78 (.map (some b)) (.int .i64 i) (.bool true)).run Try.prog w with
  | .ok _ w' => w'
  | _ => w
theorem mb_run {w : World} {b n : Nat} {S : List Int} (h : MB w b n S) (hn : n < maxLen) (i : Int) (hi : okI i = true) :
    (Instr.mapUpdate 78 (.map (some b)) (.int .i64 i) (.bool true)).run Try.prog w = .ok () (mapPut w b i) ∧ MB (mapPut w b i) b (n + 1) (i :: S) ∧ w.grownBy (mapPut w b i) (some b) := by
  obtain ⟨w', hrun, h1, h2⟩ := mb_put h hn i hi
  have e : mapPut w b i = w' := by unfold mapPut; rw [hrun]
  rw [e]
  exact ⟨hrun, h1, h2⟩
theorem okI_of {i : Int} (h0 : -9223372036854775808 ≤ i) (h1 : i ≤ 9223372036854775807) : okI i = true := by
  have a : IntKind.i64.min = -9223372036854775808 := by decide
  have b : IntKind.i64.max = 9223372036854775807 := by decide
  simp [okI, Lit.wf, a, b, h0, h1]
/-- The state of rounds that fill a map of the call's own, block bm: what was made lies where it lay; the map holds S. -/
structure MapSt (w : World) (bm : Nat) (ks : List (Nat × Obj)) (S : List Int) (wr : World) : Prop where
  below : Below w.heap.size w wr
  base : w.heap.size ≤ bm
  kept : ∀ p ∈ ks, p.1 ≠ bm ∧ wr.heap[p.1]? = some p.2
  map : MB wr bm S.length S
theorem ms_alloc {w : World} {bm : Nat} {ks : List (Nat × Obj)} {S : List Int} {wr : World} (h : MapSt w bm ks S wr) (o : Obj) : MapSt w bm ks S (wr.alloc o) :=
  ⟨h.below.alloc h.below.size o, h.base, fun p hp => ⟨(h.kept p hp).1, blk_alloc (h.kept p hp).2 o⟩, mb_below h.map (below_alloc (Below.refl _ _) o)⟩
theorem ms_more {w : World} {bm : Nat} {ks : List (Nat × Obj)} {S : List Int} {wr : World} (h : MapSt w bm ks S wr) (o : Obj) : MapSt w bm ((wr.heap.size, o) :: ks) S (wr.alloc o) := by
  have h1 := ms_alloc h o
  refine ⟨h1.below, h1.base, fun p hp => ?_, h1.map⟩
  rcases List.mem_cons.1 hp with rfl | hp
  · have := mb_lt h.map
    exact ⟨by simp; omega, blk_new wr o⟩
  · exact h1.kept p hp
theorem ms_drewN {w : World} {bm : Nat} {ks : List (Nat × Obj)} {S : List Int} {wr : World} (h : MapSt w bm ks S wr) (n : Nat) : MapSt w bm ks S (wr.drewN n) :=
  ⟨pw_below_drewN h.below n, h.base, h.kept, mb_below h.map (pw_below_drewN (Below.refl _ _) n)⟩
theorem ms_drew {w : World} {bm : Nat} {ks : List (Nat × Obj)} {S : List Int} {wr : World} (h : MapSt w bm ks S wr) : MapSt w bm ks S wr.drew :=
  ⟨below_drew h.below, h.base, h.kept, mb_below h.map (below_drew (Below.refl _ _))⟩
theorem ms_put {w : World} {bm : Nat} {ks : List (Nat × Obj)} {S : List Int} {wr : World} (h : MapSt w bm ks S wr) (i : Int) (hi : okI i = true) (hn : S.length < maxLen) :
    (Instr.mapUpdate 78 (.map (some bm)) (.int .i64 i) (.bool true)).run Try.prog wr = .ok () (mapPut wr bm i) ∧ MapSt w bm ks (i :: S) (mapPut wr bm i) ∧ wr.grownBy (mapPut wr bm i) (some bm) := by
  obtain ⟨h1, h2, h3⟩ := mb_run h.map hn i hi
  have hb := h.base
  refine ⟨h1, ⟨⟨h3.os.trans h.below.os, h3.tape.trans h.below.tape, h3.output.trans h.below.output, Nat.le_trans h.below.size h3.size, fun k hk => ?_⟩, h.base, fun p hp => ?_, h2⟩, h3⟩
  · exact (h3.block k (Nat.lt_of_lt_of_le hk h.below.size) (by simp; omega)).trans (h.below.block k hk)
  · obtain ⟨ha, hc⟩ := h.kept p hp
    exact ⟨ha, (h3.block p.1 (blk_lt hc) (by simp; exact ha)).trans hc⟩
theorem ms_congr {w : World} {bm : Nat} {ks : List (Nat × Obj)} {S S' : List Int} {wr : World} (h : MapSt w bm ks S wr) (hl : S.length = S'.length) (hs : ∀ i, S.contains i = S'.contains i) : MapSt w bm ks S' wr :=
  ⟨h.below, h.base, h.kept, by have := mb_congr h.map hs; rw [hl] at this; exact this⟩
theorem ms_below {w : World} {bm : Nat} {ks : List (Nat × Obj)} {S : List Int} {wr w' : World} (h : MapSt w bm ks S wr) (hb : Below wr.heap.size wr w') : MapSt w bm ks S w' :=
  ⟨below_then h.below h.below.size hb, h.base, fun p hp => ⟨(h.kept p hp).1, (hb.block p.1 (blk_lt (h.kept p hp).2)).trans (h.kept p hp).2⟩, mb_below h.map hb⟩
theorem mb_cell1 {w : World} {b : Nat} {v : Value} {t : Nat} {z : Nat × Nat} (h : w.heap[b]? = some (.cells #[v] t z)) : w.cell? ⟨b, 0, none⟩ = some v := by
  simp [World.cell?, h]
theorem drop_int (E : List Int) (j : Nat) (h : j < E.length) : E.drop j = rd E (j : Int) :: E.drop (j + 1) := by
  rw [List.drop_eq_getElem_cons h]
  congr 1
  show _ = E.getD j _
  rw [List.getD_eq_getElem?_getD, List.getElem?_eq_getElem h]
  rfl
theorem mcell_grown {W w1 : World} {row : Option Nat} (hg : W.grownBy w1 row) {a : Addr} {v : Value} (h : W.cell? a = some v) (hne : some a.block ≠ row) : w1.cell? a = some v := by
  have hb : a.block < W.heap.size := World.block_lt_of_cell? W _ h
  unfold World.cell? at h ⊢
  rw [hg.block a.block hb hne]
  exact h

/-- The numbers below n of which p holds. -/
def whereL (p : Int → Bool) (n : Int) : List Int := ((List.range n.toNat).map (fun (i : Nat) => (i : Int))).filter p
theorem where_zero (p : Int → Bool) (n : Int) : (((List.range 0).map (fun (i : Nat) => (i : Int))).filter p) = [] := rfl
theorem where_succ (p : Int → Bool) (i : Nat) : (((List.range (i + 1)).map (fun (i : Nat) => (i : Int))).filter p) = (((List.range i).map (fun (i : Nat) => (i : Int))).filter p) ++ (if p (i : Int) = true then [(i : Int)] else []) := by
  rw [List.range_succ, List.map_append, List.filter_append]
  simp [List.filter_cons]
theorem where_len (p : Int → Bool) (i : Nat) : (((List.range i).map (fun (i : Nat) => (i : Int))).filter p).length ≤ i := by
  have := List.length_filter_le p ((List.range i).map (fun (i : Nat) => (i : Int)))
  simpa using this
theorem where_info : (Try.prog.info? 3).map (fun i => (i.zero, i.size, i.bytes)) = some (some (.int .i64 0), 1, 8) := by kernel_rfl
theorem where_tok (w : World) (base : Nat) (ok : Nat → Prop) (i : Int) : (Kd.int .i64).M w base ok i [.int .i64 i] := rfl
set_option maxHeartbeats 2000000 in
set_option maxRecDepth 100000 in
theorem where_calls (p : Int → Bool) (fn : Nat) (lb : Array Value) (eg : ∀ args w, (callFunc fn args).run Try.prog w = .ok (.enter fn args) w) (n : Int) (hn : n ≤ 16777216) (w : World)
    (HP : ∀ W (i : Int), Below w.heap.size w W → 0 ≤ i → i < n → Calls Try.prog fn (#[.int .i64 i] ++ lb) W fun e w' => e = .returned (.bool (p i)) ∧ Below W.heap.size W w') :
    Calls Try.prog 64 #[.int .i64 n, .func (.func fn) #[] lb] w fun e w' => ∃ v0 : Value, e = .returned v0 ∧ Kd.R (Kd.int .i64) 3 w' w.heap.size (fun _ => True) v0 (whereL p n) ∧ Below w.heap.size w w' := by
  have HPH := Lib.hid HP
  clear HP
  have hu := Try.underlying24
  go_enter Try.func64, Try.ntmps64
  go_wp2
  go_loopg [5, 6, 8] n.toNat (fun gg v5 _ v8 wr => ∃ i : Nat, v8 = .int .i64 i ∧ (i : Int) ≤ max n 0 ∧ n.toNat - i ≤ gg ∧ Aside0 (Kd.R (Kd.int .i64) 3 wr w.heap.size (fun _ => True) v5 (((List.range i).map (fun (i : Nat) => (i : Int))).filter p)) ∧ Aside0 (Below w.heap.size w wr))
  case atStart => exact ⟨0, rfl, by omega, by omega, ⟨Kd.R_nil _ _ _ _ _⟩, ⟨Below.refl _ _⟩⟩
  case round =>
    obtain ⟨i, rfl, hi, hg, HO, HB⟩ := hrel
    by_cases hlt : (i : Int) < n
    · have hcall := HPH.out wr (i : Int) HB.out (by omega) hlt
      have hll := where_len p i
      have HS := Lib.hid (where_succ p i)
      obtain ⟨l, hl⟩ : ∃ l, (((List.range i).map (fun (i : Nat) => (i : Int))).filter p) = l := ⟨_, rfl⟩
      rw [hl] at HO hll
      have HL := Lib.hid hl
      clear hl
      cases hq : p (i : Int) with
      | false =>
        rw [hq] at hcall
        have HQ := Lib.hid hq
        clear hq
        go_wp2_with (go_at_fn fn; refine hcall.mono ?_; rintro e w2 ⟨rfl, hb2⟩)
        go_roundg (n.toNat - (i + 1))
        case measure => omega
        case rel => exact ⟨i + 1, by go_num, by omega, Nat.le_refl _, ⟨by rw [HS.out, HQ.out, HL.out]; simpa using Kd.R_below HO.out hb2⟩, ⟨below_then HB.out HB.out.size hb2⟩⟩
      | true =>
        rw [hq] at hcall
        have HQ := Lib.hid hq
        clear hq
        go_wp2_with (first | (go_at_fn fn; refine hcall.mono ?_; rintro e w2 ⟨rfl, hb2⟩; have HO2 := Aside0.mk (Kd.R_below HO.out hb2); have HB2 := Aside0.mk (below_then HB.out HB.out.size hb2); clear hb2) | (at_builtin; refine Kd.R_append (Kd.int .i64) (w0 := w) w.heap.size rfl _ _ 24 3 (.int .i64 0) 8 rfl Try.underlying24 where_info rfl (by decide) (by decide) u5 l (i : Int) [.int .i64 i] (fun _ => True) (fun _ => False) rfl rfl (where_tok _ _ _ _) (fun _ h_ => h_.elim) (fun _ _ => trivial) HO2.out HB2.out HB2.out.size ?hl ?hk))
        case hl => omega
        case hk =>
          intro v1 w3 ho hb hgr hat
          have HO3 := Aside0.mk ho
          have HB3 := Aside0.mk hb
          clear ho hb hgr hat
          go_wp2
          go_roundg (n.toNat - (i + 1))
          case measure => omega
          case rel => exact ⟨i + 1, by go_num, by omega, Nat.le_refl _, ⟨by rw [HS.out, HQ.out, HL.out]; exact HO3.out⟩, ⟨HB3.out⟩⟩
    · have hltz : ¬ (i : Int) < n := hlt
      have e : i = n.toNat := by omega
      go_wp2
      go_ret
      exact ⟨_, rfl, by unfold whereL; rw [← e]; exact HO.out, HB.out⟩

set_option maxHeartbeats 2000000 in
set_option maxRecDepth 100000 in
theorem fam_closure (Bk bm Bg n : Nat) (S : List Int) (A : Option Addr) (c : Nat) (E : List Int) (i : Int) (w : World) (h0 : 0 ≤ i) (h1 : i < E.length)
    (hk : w.cell? ⟨Bk, 0, none⟩ = some (.map (some bm))) (hg : w.cell? ⟨Bg, 0, none⟩ = some (.slice A E.length c)) (hC : Kd.C (Kd.int .i64) w A E.length E) (hM : MB w bm n S) (hok : okI (rd E i) = true) :
    Calls Try.prog 65 (#[.int .i64 i] ++ #[.pointer (some ⟨Bk, 0, none⟩), .pointer (some ⟨Bg, 0, none⟩)]) w fun e w' => e = .returned (.bool (S.contains (rd E i))) ∧ Below w.heap.size w w' := by
  obtain ⟨ad, ead, hx0⟩ := Kd.at_int hC i h0 h1
  have hl := mb_look hM (rd E i) hok
  have hld := fun m : Nat => (show (Instr.lookup 78 (.map (some bm)) (.int .i64 (rd E i)) false).run Try.prog (w.drewN m) = .ok (.bool (S.contains (rd E i))) (w.drewN m) from mb_look (mb_below hM (pw_below_drewN (Below.refl _ _) m)) (rd E i) hok)
  have hu := Try.underlying51
  generalize rd E i = x at *
  generalize S.contains x = r at *
  have hbg : Bg < w.heap.size := World.block_lt_of_cell? w _ hg
  generalize E.length = m at *
  clear hC hM hok
  cases ead
  show Calls Try.prog 65 #[.int .i64 i, .pointer (some ⟨Bk, 0, none⟩), .pointer (some ⟨Bg, 0, none⟩)] w _
  go_enter Try.func65, Try.ntmps65
  go_wp2
  go_quiet (fail)
  go_wp2
  go_ret
  exact ⟨rfl, pw_below_drewN (Below.refl _ _) _⟩

def famPass : List S34 → List Int → Bool → List Int × Bool
  | [], S, m => (S, m)
  | p :: r, S, m => if (S.contains p.f0 != S.contains p.f1) = true then famPass r (p.f1 :: p.f0 :: S) true else famPass r S m
def famLoop : Nat → List S34 → List Int → Option (List Int)
  | 0, _, _ => none
  | k + 1, L, S => if 1000000000 < S.length then none else if (famPass L S false).2 = true then famLoop k L (famPass L S false).1 else some (famPass L S false).1
def okL (L : List S34) : Bool := L.all fun p => okI p.f0 && okI p.f1
def graph_Family.f (k : Nat) (E : List Int) (L : List S34) (V : List Int) (occ : Int) : Option (List Int) :=
  if 0 ≤ occ ∧ occ < (E.length : Int) then (if E.all okI = true ∧ okL L = true ∧ E.length ≤ 16777216 ∧ L.length ≤ 1000000 then (famLoop k L [rd E occ]).bind fun S => some (whereL (fun i => S.contains (rd E i)) E.length) else none) else some []
theorem famLoop_mono : ∀ k, (∀ y0 y1, LeO (famLoop k y0 y1) (famLoop (k + 1) y0 y1))
  | 0 => fun _ _ r h => by simp [famLoop] at h
  | k + 1 => by
    have ih0 := famLoop_mono k
    intro y0 y1
    unfold famLoop
    exact LeO.ite (LeO.refl _) (LeO.ite (ih0 _ _) (LeO.refl _))
theorem graph_Family.mono : ∀ a0 a1 a2 a3 k, LeO (graph_Family.f k a0 a1 a2 a3) (graph_Family.f (k + 1) a0 a1 a2 a3) := by
  intro a0 a1 a2 a3 k
  unfold graph_Family.f
  exact LeO.ite (LeO.ite (LeO.bind (famLoop_mono _ _ _) (fun _ => LeO.refl _)) (LeO.none _)) (LeO.refl _)
theorem famPass_nil (S : List Int) (m : Bool) : famPass [] S m = (S, m) := rfl
theorem famPass_cons (p : S34) (r : List S34) (S : List Int) (m : Bool) : famPass (p :: r) S m = if (S.contains p.f0 != S.contains p.f1) = true then famPass r (p.f1 :: p.f0 :: S) true else famPass r S m := rfl
theorem famPass_len : ∀ (L : List S34) (S : List Int) (m : Bool), (famPass L S m).1.length ≤ S.length + 2 * L.length
  | [], S, m => by simp [famPass]
  | p :: r, S, m => by
    unfold famPass
    split
    · have := famPass_len r (p.f1 :: p.f0 :: S) true; simp at this ⊢; omega
    · have := famPass_len r S m; simp at this ⊢; omega
theorem rd_all (E : List Int) (h : E.all okI = true) (i : Int) (h0 : 0 ≤ i) (h1 : i < E.length) : okI (rd E i) = true := by
  have hi : i.toNat < E.length := by omega
  have : rd E i ∈ E := by
    unfold rd
    rw [List.getD_eq_getElem?_getD, List.getElem?_eq_getElem hi]
    exact List.getElem_mem hi
  exact List.all_eq_true.1 h _ this
theorem okL_at (L : List S34) (h : okL L = true) (i : Int) (h0 : 0 ≤ i) (h1 : i < L.length) : okI (rd_T34 L i).f0 = true ∧ okI (rd_T34 L i).f1 = true := by
  have hi : i.toNat < L.length := by omega
  have : rd_T34 L i ∈ L := by
    unfold rd_T34
    rw [List.getD_eq_getElem?_getD, List.getElem?_eq_getElem hi]
    exact List.getElem_mem hi
  have := List.all_eq_true.1 h _ this
  simpa using this
theorem drop_at (L : List S34) (j : Nat) (h : j < L.length) : L.drop j = rd_T34 L (j : Int) :: L.drop (j + 1) := by
  rw [List.drop_eq_getElem_cons h]
  congr 1
  show _ = L.getD j _
  rw [List.getD_eq_getElem?_getD, List.getElem?_eq_getElem h]
  rfl
/-- The state of the rounds: what was made lies where it lay; the map holds S. -/
structure FamSt (w : World) (bm bg bk : Nat) (g : Array Value) (S : List Int) (wr : World) : Prop where
  below : Below w.heap.size w wr
  base : w.heap.size ≤ bm
  ng : bg ≠ bm
  nk : bk ≠ bm
  cg : wr.heap[bg]? = some (.cells g 51 (0, 0))
  ck : wr.heap[bk]? = some (.cells #[.map (some bm)] 78 (0, 0))
  map : MB wr bm S.length S
theorem st_alloc {w : World} {bm bg bk : Nat} {g : Array Value} {S : List Int} {wr : World} (h : FamSt w bm bg bk g S wr) (o : Obj) : FamSt w bm bg bk g S (wr.alloc o) :=
  ⟨h.below.alloc h.below.size o, h.base, h.ng, h.nk, blk_alloc h.cg o, blk_alloc h.ck o, mb_below h.map (below_alloc (Below.refl _ _) o)⟩
theorem st_drew {w : World} {bm bg bk : Nat} {g : Array Value} {S : List Int} {wr : World} (h : FamSt w bm bg bk g S wr) : FamSt w bm bg bk g S wr.drew :=
  ⟨below_drew h.below, h.base, h.ng, h.nk, h.cg, h.ck, mb_below h.map (below_drew (Below.refl _ _))⟩
theorem st_drewN {w : World} {bm bg bk : Nat} {g : Array Value} {S : List Int} {wr : World} (h : FamSt w bm bg bk g S wr) (n : Nat) : FamSt w bm bg bk g S (wr.drewN n) :=
  ⟨pw_below_drewN h.below n, h.base, h.ng, h.nk, h.cg, h.ck, mb_below h.map (pw_below_drewN (Below.refl _ _) n)⟩
theorem st_put {w : World} {bm bg bk : Nat} {g : Array Value} {S : List Int} {wr : World} (h : FamSt w bm bg bk g S wr) (i : Int) (hi : okI i = true) (hn : S.length < maxLen) :
    (Instr.mapUpdate 78 (.map (some bm)) (.int .i64 i) (.bool true)).run Try.prog wr = .ok () (mapPut wr bm i) ∧ FamSt w bm bg bk g (i :: S) (mapPut wr bm i) ∧ wr.grownBy (mapPut wr bm i) (some bm) := by
  obtain ⟨h1, h2, h3⟩ := mb_run h.map hn i hi
  have hb := h.base
  refine ⟨h1, ⟨⟨h3.os.trans h.below.os, h3.tape.trans h.below.tape, h3.output.trans h.below.output, Nat.le_trans h.below.size h3.size, fun k hk => ?_⟩, h.base, h.ng, h.nk, ?_, ?_, h2⟩, h3⟩
  · exact (h3.block k (Nat.lt_of_lt_of_le hk h.below.size) (by simp; omega)).trans (h.below.block k hk)
  · exact (h3.block bg (blk_lt h.cg) (by simp; exact h.ng)).trans h.cg
  · exact (h3.block bk (blk_lt h.ck) (by simp; exact h.nk)).trans h.ck
theorem st_congr {w : World} {bm bg bk : Nat} {g : Array Value} {S S' : List Int} {wr : World} (h : FamSt w bm bg bk g S wr) (hl : S.length = S'.length) (hs : ∀ i, S.contains i = S'.contains i) : FamSt w bm bg bk g S' wr :=
  ⟨h.below, h.base, h.ng, h.nk, h.cg, h.ck, by have := mb_congr h.map hs; rw [hl] at this; exact this⟩
theorem st_cell0 {w : World} {bm bg bk : Nat} {v0 v1 v2 : Value} {S : List Int} {wr : World} (h : FamSt w bm bg bk #[v0, v1, v2] S wr) : wr.cell? ⟨bg, 0, none⟩ = some v0 ∧ wr.cell? ⟨bg, 1, none⟩ = some v1 ∧ wr.cell? ⟨bg, 2, none⟩ = some v2 ∧ wr.cell? ⟨bk, 0, none⟩ = some (.map (some bm)) := by
  have h1 := h.cg
  have h2 := h.ck
  refine ⟨?_, ?_, ?_, ?_⟩ <;> simp [World.cell?, h1, h2]
set_option maxHeartbeats 4000000 in
set_option maxRecDepth 100000 in
theorem graph_Family.calls (k : Nat) (A0_0 : Option Addr) (c0_0 : Nat) (l0_0 : List Int) (A0_1 : Option Addr) (c0_1 : Nat) (l0_1 : List S34) (A0_2 : Option Addr) (c0_2 : Nat) (l0_2 : List Int) (a1 : Int) (r : List Int) (w : World)
    (hr0_0 : Kd.C (Kd.int .i64) w A0_0 l0_0.length l0_0) (hc0_0 : l0_0.length ≤ c0_0) (hr0_1 : Kd.C k34 w A0_1 l0_1.length l0_1) (hc0_1 : l0_1.length ≤ c0_1) (hr0_2 : Kd.C (Kd.int .i64) w A0_2 l0_2.length l0_2) (hc0_2 : l0_2.length ≤ c0_2) (h : graph_Family.f k l0_0 l0_1 l0_2 a1 = some r) :
    Calls Try.prog 32 #[.agg #[.slice A0_0 l0_0.length c0_0, .slice A0_1 l0_1.length c0_1, .slice A0_2 l0_2.length c0_2], .int .i64 a1] w fun e w' => ∃ v0_ : Value, e = .returned (v0_) ∧ Kd.R (Kd.int .i64) 3 w' w.heap.size (fun _ => True) v0_ r ∧ Below w.heap.size w w' := by
  have hu51 := Try.underlying51
  have hu34 := Try.underlying34
  have hu78 := Try.underlying78
  have HC0 := Aside0.mk hr0_0
  have HC1 := Aside0.mk hr0_1
  have HK0 := Aside0.mk hc0_0
  clear hr0_0 hr0_1 hr0_2 hc0_2
  unfold graph_Family.f at h
  by_cases hin : 0 ≤ a1 ∧ a1 < (l0_0.length : Int)
  · rw [if_pos hin] at h
    by_cases hok : l0_0.all okI = true ∧ okL l0_1 = true ∧ l0_0.length ≤ 16777216 ∧ l0_1.length ≤ 1000000
    · rw [if_pos hok] at h
      obtain ⟨Sf, hf, hr⟩ := Option.bind_eq_some_iff.mp h
      obtain rfl := Option.some.inj hr
      obtain ⟨hE, hL, hEl, hLl⟩ := hok
      have HF := Aside0.mk hf
      have HE := Lib.hid hE
      have HLK := Lib.hid hL
      obtain ⟨hi0, hi1⟩ := hin
      have hinr := graph_in.calls a1 (l0_0.length : Int) true (w.alloc (.cells #[.slice A0_0 l0_0.length c0_0, .slice A0_1 l0_1.length c0_1, .slice A0_2 l0_2.length c0_2] 51)) (by unfold graph_in.f; rw [if_pos (by omega), decide_eq_true hi1])
      have HIN := Aside0.mk hinr
      clear h hr hf hE hL hinr
      obtain ⟨ad, ead, hx0⟩ := Kd.at_int (Kd.C_alloc HC0.out (.cells #[.slice A0_0 l0_0.length c0_0, .slice A0_1 l0_1.length c0_1, .slice A0_2 l0_2.length c0_2] 51)) a1 hi0 hi1
      have hoka := rd_all l0_0 HE.out a1 hi0 hi1
      cases ead
      have hmm := @run_makeMap Try.prog
      go_enter Try.func32, Try.ntmps32
      go_wp2_with fail
      refine HIN.out.mono ?_
      rintro e w1 ⟨rfl, hd⟩
      obtain ⟨nd, rfl⟩ := hd.out
      have hx1 : (((w.alloc (.cells #[.slice (some ad) l0_0.length c0_0, .slice A0_1 l0_1.length c0_1, .slice A0_2 l0_2.length c0_2] 51)).drewN nd).alloc (.map #[] 0)).cell? (ad.add a1.toNat) = some (.int .i64 (rd l0_0 a1)) := Lib.cell?_alloc_some _ hx0
      clear hd
      have hm0 := mb_made ((w.alloc (.cells #[.slice (some ad) l0_0.length c0_0, .slice A0_1 l0_1.length c0_1, .slice A0_2 l0_2.length c0_2] 51)).drewN nd)
      rw [show ((w.alloc (.cells #[.slice (some ad) l0_0.length c0_0, .slice A0_1 l0_1.length c0_1, .slice A0_2 l0_2.length c0_2] 51)).drewN nd).heap.size = w.heap.size + 1 by simp] at hm0
      obtain ⟨w2, hrun2, hm2, hg2⟩ := mb_put hm0 (by decide) (rd l0_0 a1) hoka
      have HM2 := Aside0.mk hm2
      have HG2 := Aside0.mk hg2
      clear hm0 hm2 hg2
      go_wp2
      clear hrun2 hx0 hx1
      have hst : FamSt w (w.heap.size + 1) w.heap.size w2.heap.size #[.slice (some ad) l0_0.length c0_0, .slice A0_1 l0_1.length c0_1, .slice A0_2 l0_2.length c0_2] [rd l0_0 a1] (w2.alloc (.cells #[.map (some (w.heap.size + 1))] 78)) := by
        have hs2 := HG2.out.size
        simp at hs2
        have hb2 : w2.heap[w.heap.size]? = some (.cells #[.slice (some ad) l0_0.length c0_0, .slice A0_1 l0_1.length c0_1, .slice A0_2 l0_2.length c0_2] 51 (0, 0)) := by
          rw [HG2.out.block w.heap.size (by simp; omega) (by simp)]
          exact blk_alloc (blk_drewN (blk_new w _) nd) _
        refine ⟨?_, by omega, by omega, by omega, blk_alloc hb2 _, blk_new w2 _, mb_below HM2.out (below_alloc (Below.refl _ _) _)⟩
        have hB0 : Below w.heap.size w (((w.alloc (.cells #[.slice (some ad) l0_0.length c0_0, .slice A0_1 l0_1.length c0_1, .slice A0_2 l0_2.length c0_2] 51)).drewN nd).alloc (.map #[] 0)) := below_alloc (pw_below_drewN (below_alloc (Below.refl _ _) _) nd) _
        have hB1 : Below w.heap.size w w2 := pw_below_grown hB0 (some (w.heap.size + 1)) hB0.size HG2.out (fun k hk => by simp at hk; omega)
        exact below_alloc hB1 _
      have HST := Aside0.mk hst
      have hbk : w.heap.size + 2 ≤ w2.heap.size := by have := HG2.out.size; simp at this; omega
      clear hst HM2 HG2
      generalize w2.heap.size = bk at *
      generalize rd l0_0 a1 = x0 at *
      go_loopg [6] k (fun kq v6 wr => ∃ (S : List Int) (m : Bool), v6 = .bool m ∧ Aside0 ((if m = true then famLoop kq l0_1 S else some S) = some Sf) ∧ Aside0 (FamSt w (w.heap.size + 1) w.heap.size bk #[.slice (some ad) l0_0.length c0_0, .slice A0_1 l0_1.length c0_1, .slice A0_2 l0_2.length c0_2] S wr))
      case atStart => exact ⟨[x0], true, rfl, ⟨by rw [if_pos rfl]; exact HF.out⟩, HST⟩
      case round =>
        clear HF HST HIN
        obtain ⟨S, m, rfl, HA, HS⟩ := hrel
        cases m with
        | false =>
          have H := HA.out
          rw [if_neg (by simp)] at H
          obtain rfl := Option.some.inj H
          clear H HA
          obtain ⟨c0, c1, c2, c3⟩ := st_cell0 HS.out
          have HCr := Aside0.mk (Kd.C_below HC0.out HS.out.below)
          have eg : ∀ args w, (callFunc 65 args).run Try.prog w = .ok (.enter 65 args) w := enters_of Try.func65 (by kernel_rfl) rfl
          have HW := Aside0.mk (where_calls (fun i => S.contains (rd l0_0 i)) 65 #[.pointer (some ⟨bk, 0, none⟩), .pointer (some ⟨w.heap.size, 0, none⟩)] eg (l0_0.length : Int) (by omega) wr (fun W i hb h0 h1 =>
            fam_closure bk (w.heap.size + 1) w.heap.size S.length S (some ad) c0_0 l0_0 i W h0 h1 ((hb.cell (p := ⟨bk, 0, none⟩) (blk_lt HS.out.ck)).trans c3) ((hb.cell (p := ⟨w.heap.size, 0, none⟩) (blk_lt HS.out.cg)).trans c0) (Kd.C_below HCr.out hb) (mb_below HS.out.map hb) (rd_all l0_0 HE.out i h0 h1)))
          clear eg
          have HBS := Aside0.mk HS.out.below
          clear HS HCr
          go_wp2_with fail
          refine HW.out.mono ?_
          rintro e w3 ⟨v0, rfl, ho, hb⟩
          have HO := Aside0.mk (Kd.R_lower ho HBS.out.size)
          have HB3 := Aside0.mk (below_then HBS.out HBS.out.size hb)
          clear ho hb
          go_wp2
          go_ret
          exact ⟨v0, rfl, HO.out, HB3.out⟩
        | true =>
          have H := HA.out
          rw [if_pos rfl] at H
          clear HA
          cases gk with
          | zero => exact absurd H (by simp [famLoop])
          | succ k1 =>
          simp only [famLoop] at H
          by_cases hbig : 1000000000 < S.length
          · rw [if_pos hbig] at H
            cases H
          rw [if_neg hbig] at H
          have HP := Aside0.mk H
          clear H
          obtain ⟨c0, c1, c2, c3⟩ := st_cell0 HS.out
          go_wp2
          clear c0 c1 c2 c3
          obtain ⟨nL, hnL⟩ : ∃ nL, l0_1.length = nL := ⟨_, rfl⟩
          rw [hnL] at hLl ⊢
          have HNL := Lib.hid hnL
          clear hnL
          go_loopg [6, 8, 26] nL (fun gg v6 _ v26 wr => ∃ (j : Nat) (S' : List Int) (m' : Bool), v26 = .int .i64 j ∧ v6 = .bool m' ∧ j ≤ nL ∧ nL - j ≤ gg ∧ S'.length ≤ S.length + 2 * j ∧ Aside0 (famPass (l0_1.drop j) S' m' = famPass l0_1 S false) ∧ Aside0 (FamSt w (w.heap.size + 1) w.heap.size bk #[.slice (some ad) l0_0.length c0_0, .slice A0_1 l0_1.length c0_1, .slice A0_2 l0_2.length c0_2] S' wr))
          case atStart => exact ⟨0, S, false, rfl, rfl, Nat.zero_le _, by omega, by omega, ⟨rfl⟩, HS⟩
          case round =>
            obtain ⟨j, S', m', rfl, rfl, hj, hgj, hlen, HPs, HS1⟩ := hrel
            by_cases hlt : j < nL
            · have hltz : (j : Int) < (nL : Int) := by omega
              obtain ⟨ad1, ead1, hx0, hx1⟩ := at_T34 (Kd.C_below HC1.out HS1.out.below) (j : Int) (by omega) (by rw [HNL.out]; omega)
              rw [Int.toNat_natCast] at hx0 hx1
              obtain ⟨ok0, ok1⟩ := okL_at l0_1 HLK.out (j : Int) (by omega) (by rw [HNL.out]; omega)
              have hdr := Lib.hid (drop_at l0_1 j (by rw [HNL.out]; exact hlt))
              generalize rd_T34 l0_1 (j : Int) = x at hx0 hx1 ok0 ok1 hdr
              obtain ⟨a, b⟩ := x
              dsimp only at hx0 hx1 ok0 ok1
              cases ead1
              have HS2 := Aside0.mk (st_alloc HS1.out (.cells #[.int .i64 a, .int .i64 b] 34))
              obtain ⟨c0, c1, c2, c3⟩ := st_cell0 HS2.out
              have l0 := mb_look HS2.out.map a ok0
              have l1 := mb_look HS2.out.map b ok1
              have hpa : Hid (famPass (⟨a, b⟩ :: l0_1.drop (j + 1)) S' m' = famPass l0_1 S false) := Lib.hid (by rw [← hdr.out]; exact HPs.out)
              have hsame : Hid ((S'.contains a == S'.contains b) = true → famPass (l0_1.drop (j + 1)) S' m' = famPass l0_1 S false) := Lib.hid (fun he => by
                have := hpa.out
                rw [famPass_cons] at this
                rw [if_neg (by rw [bne, he]; simp)] at this
                exact this)
              have hdiff : Hid ((S'.contains a == S'.contains b) = false → famPass (l0_1.drop (j + 1)) (b :: a :: S') true = famPass l0_1 S false) := Lib.hid (fun he => by
                have := hpa.out
                rw [famPass_cons] at this
                rw [if_pos (by rw [bne, he]; simp)] at this
                exact this)
              generalize S'.contains a = xa at l0 hsame hdiff
              generalize S'.contains b = xb at l1 hsame hdiff
              clear hpa HPs hdr
              by_cases hxx : (xa == xb) = true
              · have HX := Aside0.mk (hsame.out hxx)
                clear hsame hdiff
                cases xa <;> cases xb <;> first | (exact absurd hxx (by decide)) | skip
                all_goals
                  go_wp2
                  go_roundg (nL - (j + 1))
                  case measure => omega
                  case rel => exact ⟨j + 1, S', m', by go_num, rfl, by omega, Nat.le_refl _, by omega, HX, HS2⟩
              · have hxf : (xa == xb) = false := by rw [← Bool.not_eq_true]; exact hxx
                have HX := Aside0.mk (hdiff.out hxf)
                clear hsame hdiff hxf
                cases xa <;> cases xb <;> first | (exact absurd (by decide) hxx) | skip
                all_goals
                  go_wp2
                  clear l0 l1 hx0 hx1
                  obtain ⟨r1, s1, g1⟩ := st_put (st_drew HS2.out) a ok0 (by unfold maxLen; omega)
                  obtain ⟨r2, s2, g2⟩ := st_put s1 b ok1 (by unfold maxLen; simp; omega)
                  obtain ⟨r3, s3, g3⟩ := st_put (st_drew HS2.out) b ok1 (by unfold maxLen; omega)
                  obtain ⟨r4, s4, g4⟩ := st_put s3 a ok0 (by unfold maxLen; simp; omega)
                  have hwb := HS1.out.map
                  have hwl := mb_lt hwb
                  have e1 : (mapPut (wr.alloc (.cells #[.int .i64 a, .int .i64 b] 34)).drew (w.heap.size + 1) a).cell? ⟨wr.heap.size, 1, none⟩ = some (.int .i64 b) := mcell_grown g1 (by simp) (by simp; omega)
                  have e2 : (mapPut (wr.alloc (.cells #[.int .i64 a, .int .i64 b] 34)).drew (w.heap.size + 1) b).cell? ⟨wr.heap.size, 0, none⟩ = some (.int .i64 a) := mcell_grown g3 (by simp) (by simp; omega)
                  obtain ⟨_, _, _, f1⟩ := st_cell0 s1
                  obtain ⟨_, _, _, f3⟩ := st_cell0 s3
                  have S2 := Aside0.mk s2
                  have S4 := Aside0.mk s4
                  clear g1 g2 g3 g4 s1 s2 s3 s4 hwb hwl
                  go_region
                  all_goals
                    go_wp2
                    go_roundg (nL - (j + 1))
                    case measure => omega
                    case rel => exact ⟨j + 1, b :: a :: S', true, by go_num, rfl, by omega, Nat.le_refl _, by simp; omega, HX, S2⟩
            · have hltz : ¬ (j : Int) < (nL : Int) := by omega
              obtain rfl : j = nL := by omega
              obtain rfl := HNL.out
              have hP := HPs.out
              rw [List.drop_of_length_le (Nat.le_refl _)] at hP
              rw [famPass_nil] at hP
              have HH := HP.out
              rw [← hP] at HH
              dsimp only at HH
              have HX := Aside0.mk HH
              clear HH hP HPs
              go_wp2
              go_roundg k1
              case measure => omega
              case rel => exact ⟨S', m', rfl, HX, HS1⟩
    · rw [if_neg hok] at h
      cases h
  · rw [if_neg hin] at h
    obtain rfl := Option.some.inj h
    have hinr := graph_in.calls a1 (l0_0.length : Int) false (w.alloc (.cells #[.slice A0_0 l0_0.length c0_0, .slice A0_1 l0_1.length c0_1, .slice A0_2 l0_2.length c0_2] 51)) (by
      unfold graph_in.f
      by_cases h0 : a1 ≥ 0
      · rw [if_pos h0, decide_eq_false (by omega)]
      · rw [if_neg h0])
    have HIN := Aside0.mk hinr
    clear h hinr hin
    go_enter Try.func32, Try.ntmps32
    go_wp2_with fail
    refine HIN.out.mono ?_
    rintro e w1 ⟨rfl, hd⟩
    go_wp2
    go_ret
    obtain ⟨nd, rfl⟩ := hd.out
    exact ⟨_, rfl, Kd.R_nil _ _ _ _ _, pw_below_drewN (below_alloc (Below.refl _ _) _) nd⟩



/-! ### graph_Spare: function 60 -/
set_option maxHeartbeats 2000000 in
set_option maxRecDepth 100000 in
theorem spare_closure (Bl Bk bm n : Nat) (S : List Int) (A : Option Addr) (c : Nat) (l : List S92) (i : Int) (w : World) (h0 : 0 ≤ i) (h1 : i < l.length) (hlen : l.length ≤ 16777216)
    (hk : w.cell? ⟨Bk, 0, none⟩ = some (.map (some bm))) (hg : w.cell? ⟨Bl, 0, none⟩ = some (.slice A l.length c)) (hC : Kd.C k92 w A l.length l) (hM : MB w bm n S) :
    Calls Try.prog 85 (#[.int .i64 i] ++ #[.pointer (some ⟨Bl, 0, none⟩), .pointer (some ⟨Bk, 0, none⟩)]) w fun e w' => e = .returned (.bool ((rd_T92 l i).f4 && !S.contains i)) ∧ Below w.heap.size w w' := by
  obtain ⟨ad, ead, -, -, -, -, hx4⟩ := at_T92 hC i h0 h1
  have hl := mb_look hM i (okI_of (by omega) (by omega))
  have hu := Try.underlying52
  have hu2 := Try.underlying92
  generalize (rd_T92 l i).f4 = x at *
  generalize S.contains i = r at *
  generalize l.length = m at *
  clear hC hM hlen
  cases ead
  show Calls Try.prog 85 #[.int .i64 i, .pointer (some ⟨Bl, 0, none⟩), .pointer (some ⟨Bk, 0, none⟩)] w _
  cases x with
  | false =>
    go_enter Try.func85, Try.ntmps85
    go_wp2
    go_ret
    exact ⟨rfl, Below.refl _ _⟩
  | true =>
    cases r <;>
    · go_enter Try.func85, Try.ntmps85
      go_wp2
      go_ret
      exact ⟨rfl, Below.refl _ _⟩
def spE : List Int → Int → List Int → List Int
  | [], _, S => S
  | d :: r, i, S => spE r (i + 1) (if i = d then S else d :: S)
def spL : List S34 → List Int → List Int
  | [], S => S
  | p :: r, S => spL r (p.f1 :: p.f0 :: S)
def graph_Spare.f (k : Nat) (E : List Int) (L : List S34) (V : List Int) (l : List S92) : Option (List Int) :=
  if E.all okI = true ∧ okL L = true ∧ E.length ≤ 16777216 ∧ L.length ≤ 1000000 ∧ l.length ≤ 16777216 then some (whereL (fun i => (rd_T92 l i).f4 && !(spL L (spE E 0 [])).contains i) l.length) else none
theorem graph_Spare.mono : ∀ a0 a1 a2 a3 k, LeO (graph_Spare.f k a0 a1 a2 a3) (graph_Spare.f (k + 1) a0 a1 a2 a3) := fun _ _ _ _ _ => LeO.refl _
set_option maxHeartbeats 4000000 in
set_option maxRecDepth 100000 in
theorem graph_Spare.calls (k : Nat) (A0_0 : Option Addr) (c0_0 : Nat) (l0_0 : List Int) (A0_1 : Option Addr) (c0_1 : Nat) (l0_1 : List S34) (A0_2 : Option Addr) (c0_2 : Nat) (l0_2 : List Int) (A1 : Option Addr) (c1 : Nat) (l1 : List (S92)) (r : List Int) (w : World)
    (hr0_0 : Kd.C (Kd.int .i64) w A0_0 l0_0.length l0_0) (hc0_0 : l0_0.length ≤ c0_0) (hr0_1 : Kd.C k34 w A0_1 l0_1.length l0_1) (hc0_1 : l0_1.length ≤ c0_1) (hr0_2 : Kd.C (Kd.int .i64) w A0_2 l0_2.length l0_2) (hc0_2 : l0_2.length ≤ c0_2) (hr1 : Kd.C k92 w A1 l1.length l1) (hc1 : l1.length ≤ c1) (h : graph_Spare.f k l0_0 l0_1 l0_2 l1 = some r) :
    Calls Try.prog 60 #[.agg #[.slice A0_0 l0_0.length c0_0, .slice A0_1 l0_1.length c0_1, .slice A0_2 l0_2.length c0_2], .slice A1 l1.length c1] w fun e w' => ∃ v0_ : Value, e = .returned (v0_) ∧ Kd.R (Kd.int .i64) 3 w' w.heap.size (fun _ => True) v0_ r ∧ Below w.heap.size w w' := by
  have hu51 := Try.underlying51
  have hu34 := Try.underlying34
  have hu78 := Try.underlying78
  have HC0 := Aside0.mk hr0_0
  have HC1 := Aside0.mk hr0_1
  have HC3 := Aside0.mk hr1
  clear hr0_0 hr0_1 hr0_2 hc0_2 hc0_0 hc0_1 hr1 hc1
  unfold graph_Spare.f at h
  by_cases hok : l0_0.all okI = true ∧ okL l0_1 = true ∧ l0_0.length ≤ 16777216 ∧ l0_1.length ≤ 1000000 ∧ l1.length ≤ 16777216
  · rw [if_pos hok] at h
    obtain rfl := Option.some.inj h
    obtain ⟨hE, hL, hEl, hLl, hll⟩ := hok
    have HE := Lib.hid hE
    have HLK := Lib.hid hL
    clear h hE hL
    have hmm := @run_makeMap Try.prog
    obtain ⟨kc, hkc⟩ : ∃ kc : List (Nat × Obj), kc = [(w.heap.size + 1, Obj.cells #[.slice A1 l1.length c1] 52 (0, 0)), (w.heap.size, Obj.cells #[.slice A0_0 l0_0.length c0_0, .slice A0_1 l0_1.length c0_1, .slice A0_2 l0_2.length c0_2] 51 (0, 0))] := ⟨_, rfl⟩
    have HKC := Lib.hid hkc
    have hst : MapSt w (w.heap.size + 1 + 1) kc [] (((w.alloc (.cells #[.slice A0_0 l0_0.length c0_0, .slice A0_1 l0_1.length c0_1, .slice A0_2 l0_2.length c0_2] 51)).alloc (.cells #[.slice A1 l1.length c1] 52)).alloc (.map #[] 0)) := by
      refine ⟨below_alloc (below_alloc (below_alloc (Below.refl _ _) _) _) _, by omega, ?_, ?_⟩
      · intro p hp
        rw [hkc] at hp
        simp only [List.mem_cons, List.not_mem_nil, or_false] at hp
        rcases hp with rfl | rfl
        · refine ⟨by show w.heap.size + 1 ≠ _; omega, blk_alloc ?_ _⟩
          have := blk_new (w.alloc (.cells #[.slice A0_0 l0_0.length c0_0, .slice A0_1 l0_1.length c0_1, .slice A0_2 l0_2.length c0_2] 51)) (.cells #[.slice A1 l1.length c1] 52)
          simpa using this
        · exact ⟨by show w.heap.size ≠ _; omega, blk_alloc (blk_alloc (blk_new w _) _) _⟩
      · have := mb_made ((w.alloc (.cells #[.slice A0_0 l0_0.length c0_0, .slice A0_1 l0_1.length c0_1, .slice A0_2 l0_2.length c0_2] 51)).alloc (.cells #[.slice A1 l1.length c1] 52))
        simpa using this
    have hst1 := ms_more hst (.cells #[.map (some (w.heap.size + 1 + 1))] 78)
    rw [show (((w.alloc (.cells #[.slice A0_0 l0_0.length c0_0, .slice A0_1 l0_1.length c0_1, .slice A0_2 l0_2.length c0_2] 51)).alloc (.cells #[.slice A1 l1.length c1] 52)).alloc (.map #[] 0)).heap.size = w.heap.size + 1 + 1 + 1 by simp] at hst1
    have HST := Aside0.mk hst1
    clear hst hst1 hkc
    obtain ⟨kd, hkd⟩ : ∃ kd : List (Nat × Obj), kd = (w.heap.size + 1 + 1 + 1, Obj.cells #[.map (some (w.heap.size + 1 + 1))] 78 (0, 0)) :: kc := ⟨_, rfl⟩
    have hcells : ∀ S wr, MapSt w (w.heap.size + 1 + 1) kd S wr → wr.cell? ⟨w.heap.size, 0, none⟩ = some (.slice A0_0 l0_0.length c0_0) ∧ wr.cell? ⟨w.heap.size, 1, none⟩ = some (.slice A0_1 l0_1.length c0_1) ∧ wr.cell? ⟨w.heap.size + 1, 0, none⟩ = some (.slice A1 l1.length c1) ∧ wr.cell? ⟨w.heap.size + 1 + 1 + 1, 0, none⟩ = some (.map (some (w.heap.size + 1 + 1))) := by
      intro S wr hm
      have hk := hm.kept
      rw [hkd, HKC.out] at hk
      have h1 := (hk (w.heap.size, Obj.cells #[.slice A0_0 l0_0.length c0_0, .slice A0_1 l0_1.length c0_1, .slice A0_2 l0_2.length c0_2] 51 (0, 0)) (by simp)).2
      have h2 := (hk (w.heap.size + 1, Obj.cells #[.slice A1 l1.length c1] 52 (0, 0)) (by simp)).2
      have h3 := (hk (w.heap.size + 1 + 1 + 1, Obj.cells #[.map (some (w.heap.size + 1 + 1))] 78 (0, 0)) (by simp)).2
      refine ⟨?_, ?_, mb_cell1 h2, mb_cell1 h3⟩ <;> simp [World.cell?, h1]
    rw [← hkd] at HST
    have HCELL := Lib.hid hcells
    clear hcells hkd HKC
    go_enter Try.func60, Try.ntmps60
    go_wp2
    obtain ⟨SE, hSE⟩ : ∃ SE, spE l0_0 0 [] = SE := ⟨_, rfl⟩
    have HSE := Lib.hid hSE
    have HF0 := Aside0.mk (show spE (l0_0.drop 0) ((0 : Nat) : Int) [] = SE from hSE)
    clear hSE
    obtain ⟨nE, hnE⟩ : ∃ nE, l0_0.length = nE := ⟨_, rfl⟩
    rw [hnE] at hEl HCELL ⊢
    have HNE := Lib.hid hnE
    have HST0 := Aside0.mk HST.out
    rw [hnE] at HST0
    clear hnE HST
    go_loopg [6, 7, 14] nE (fun gg _ _ v14 wr => ∃ (j : Nat) (S : List Int), v14 = .int .i64 j ∧ j ≤ nE ∧ nE - j ≤ gg ∧ S.length ≤ j ∧ Aside0 (spE (l0_0.drop j) (j : Int) S = SE) ∧ Aside0 (MapSt w (w.heap.size + 1 + 1) kd S wr))
    case atStart => exact ⟨0, [], rfl, Nat.zero_le _, by omega, Nat.le_refl _, HF0, HST0⟩
    case round =>
      clear HF0 HST0
      obtain ⟨j, S, rfl, hj, hgj, hlen, HP, HS⟩ := hrel
      by_cases hlt : j < nE
      · have hltz : (j : Int) < (nE : Int) := by omega
        obtain ⟨ad1, ead1, hx0⟩ := Kd.at_int (Kd.C_below HC0.out HS.out.below) (j : Int) (by omega) (by rw [HNE.out]; omega)
        have hokd := rd_all l0_0 HE.out (j : Int) (by omega) (by rw [HNE.out]; omega)
        have hdr := Lib.hid (drop_int l0_0 j (by rw [HNE.out]; exact hlt))
        rw [Int.toNat_natCast] at hx0
        generalize rd l0_0 (j : Int) = d at hx0 hokd hdr
        cases ead1
        obtain ⟨q0, q1, q2, q3⟩ := HCELL.out S _ HS.out
        have hpa : Hid (spE (l0_0.drop (j + 1)) ((j + 1 : Nat) : Int) (if (j : Int) = d then S else d :: S) = SE) := Lib.hid (by
          have := HP.out
          rw [hdr.out] at this
          exact this)
        clear HP hdr
        by_cases hd : (j : Int) = d
        · have HX := Aside0.mk (show spE (l0_0.drop (j + 1)) ((j + 1 : Nat) : Int) S = SE by have := hpa.out; rw [if_pos hd] at this; exact this)
          clear hpa
          subst hd
          go_wp2
          go_roundg (nE - (j + 1))
          case measure => omega
          case rel => exact ⟨j + 1, S, by go_num, by omega, Nat.le_refl _, by omega, HX, HS⟩
        · have HX := Aside0.mk (show spE (l0_0.drop (j + 1)) ((j + 1 : Nat) : Int) (d :: S) = SE by have := hpa.out; rw [if_neg hd] at this; exact this)
          clear hpa
          obtain ⟨r1, s1, g1⟩ := ms_put HS.out d hokd (by unfold maxLen; omega)
          have S1 := Aside0.mk s1
          clear s1 g1
          go_wp2
          go_roundg (nE - (j + 1))
          case measure => omega
          case rel => exact ⟨j + 1, d :: S, by go_num, by omega, Nat.le_refl _, by simp; omega, HX, S1⟩
      · have hltz : ¬ (j : Int) < (nE : Int) := by omega
        obtain rfl : j = nE := by omega
        have hP := HP.out
        rw [List.drop_of_length_le (by rw [HNE.out]; exact Nat.le_refl _)] at hP
        have hP1 : S = SE := hP
        subst hP1
        clear hP HP
        obtain ⟨q0, q1, q2, q3⟩ := HCELL.out S _ HS.out
        go_wp2
        clear q0 q1 q2 q3
        obtain rfl := HNE.out
        obtain ⟨SF, hSF⟩ : ∃ SF, spL l0_1 S = SF := ⟨_, rfl⟩
        have HSF := Lib.hid hSF
        have HF0 := Aside0.mk (show spL (l0_1.drop 0) S = SF from hSF)
        clear hSF
        obtain ⟨nL, hnL⟩ : ∃ nL, l0_1.length = nL := ⟨_, rfl⟩
        rw [hnL] at hLl HCELL ⊢
        have HNL := Lib.hid hnL
        have HS0 := Aside0.mk HS.out
        clear hnL HS
        go_loopg [9, 28] nL (fun gg _ v28 wr => ∃ (j : Nat) (S' : List Int), v28 = .int .i64 j ∧ j ≤ nL ∧ nL - j ≤ gg ∧ S'.length ≤ S.length + 2 * j ∧ Aside0 (spL (l0_1.drop j) S' = SF) ∧ Aside0 (MapSt w (w.heap.size + 1 + 1) kd S' wr))
        case atStart => exact ⟨0, S, rfl, Nat.zero_le _, by omega, by omega, HF0, HS0⟩
        case round =>
          clear HF0 HS0
          obtain ⟨j, S', rfl, hj, hgj, hlen', HPs, HS1⟩ := hrel
          by_cases hlt : j < nL
          · have hltz : (j : Int) < (nL : Int) := by omega
            obtain ⟨ad1, ead1, hx0, hx1⟩ := at_T34 (Kd.C_below HC1.out HS1.out.below) (j : Int) (by omega) (by rw [HNL.out]; omega)
            rw [Int.toNat_natCast] at hx0 hx1
            obtain ⟨ok0, ok1⟩ := okL_at l0_1 HLK.out (j : Int) (by omega) (by rw [HNL.out]; omega)
            have hdr := Lib.hid (drop_at l0_1 j (by rw [HNL.out]; exact hlt))
            generalize rd_T34 l0_1 (j : Int) = x at hx0 hx1 ok0 ok1 hdr
            obtain ⟨a, b⟩ := x
            dsimp only at hx0 hx1 ok0 ok1
            cases ead1
            have HS2 := Aside0.mk (ms_alloc HS1.out (.cells #[.int .i64 a, .int .i64 b] 34))
            obtain ⟨q0, q1, q2, q3⟩ := HCELL.out S' _ HS2.out
            have HX := Aside0.mk (show spL (l0_1.drop (j + 1)) (b :: a :: S') = SF by have := HPs.out; rw [hdr.out] at this; exact this)
            clear HPs hdr
            go_wp2
            clear hx0 hx1
            obtain ⟨r1, s1, g1⟩ := ms_put (ms_drew HS2.out) a ok0 (by unfold maxLen; omega)
            obtain ⟨r2, s2, g2⟩ := ms_put s1 b ok1 (by unfold maxLen; simp; omega)
            have hwl := mb_lt HS1.out.map
            have e1 : (mapPut (wr.alloc (.cells #[.int .i64 a, .int .i64 b] 34)).drew (w.heap.size + 1 + 1) a).cell? ⟨wr.heap.size, 1, none⟩ = some (.int .i64 b) := mcell_grown g1 (by simp) (by simp; omega)
            obtain ⟨_, _, _, f1⟩ := HCELL.out _ _ s1
            have S2 := Aside0.mk s2
            clear g1 g2 s1 s2 hwl
            go_region
            all_goals
              go_wp2
              go_roundg (nL - (j + 1))
              case measure => omega
              case rel => exact ⟨j + 1, b :: a :: S', by go_num, by omega, Nat.le_refl _, by simp; omega, HX, S2⟩
          · have hltz : ¬ (j : Int) < (nL : Int) := by omega
            obtain rfl : j = nL := by omega
            have hP := HPs.out
            rw [List.drop_of_length_le (by rw [HNL.out]; exact Nat.le_refl _)] at hP
            have hP1 : S' = SF := hP
            subst hP1
            clear hP HPs
            obtain ⟨q0, q1, q2, q3⟩ := HCELL.out S' _ HS1.out
            have HCr := Aside0.mk (Kd.C_below HC3.out HS1.out.below)
            have eg : ∀ args w, (callFunc 85 args).run Try.prog w = .ok (.enter 85 args) w := enters_of Try.func85 (by kernel_rfl) rfl
            have HW := Aside0.mk (where_calls (fun i => (rd_T92 l1 i).f4 && !S'.contains i) 85 #[.pointer (some ⟨w.heap.size + 1, 0, none⟩), .pointer (some ⟨w.heap.size + 1 + 1 + 1, 0, none⟩)] eg (l1.length : Int) (by omega) wr (fun W i hb h0 h1 => by
              obtain ⟨-, -, d2, d3⟩ := HCELL.out S' _ (ms_below HS1.out hb)
              exact spare_closure (w.heap.size + 1) (w.heap.size + 1 + 1 + 1) (w.heap.size + 1 + 1) S'.length S' A1 c1 l1 i W h0 h1 hll d3 d2 (Kd.C_below HCr.out hb) (mb_below HS1.out.map hb)))
            clear eg
            have HBS := Aside0.mk HS1.out.below
            clear HS1 HCr
            go_wp2_with fail
            refine HW.out.mono ?_
            rintro e w3 ⟨v0, rfl, ho, hb⟩
            have HO := Aside0.mk (Kd.R_lower ho HBS.out.size)
            have HB3 := Aside0.mk (below_then HBS.out HBS.out.size hb)
            clear ho hb
            go_wp2
            go_ret
            refine ⟨v0, rfl, ?_, HB3.out⟩
            rw [HSE.out, HSF.out]
            exact HO.out
  · rw [if_neg hok] at h
    cases h



end Go.Proofs.Ythgjieigpfcekaa.QG
