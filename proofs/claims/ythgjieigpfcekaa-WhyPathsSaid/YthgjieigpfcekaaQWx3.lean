-- Laid by this claim's own program (mprint.py in the repo).
import Derived.Test.YthgjieigpfcekaaQWx0
import Derived.Test.YthgjieigpfcekaaQWx1
import Derived.Test.YthgjieigpfcekaaQWx2
namespace Go.Proofs.Ythgjieigpfcekaa.QW
open Go.RowKit Go.Proofs.YthgjieigpfcekaaW.PrintWords Go.Proofs.YthgjieigpfcekaaW.PrintLast Go.Proofs.YthgjieigpfcekaaW.PrintMore
attribute [local go_sem] max2_int min2_int max_two min_two max_three min_three max_four min_four   -- for this text's walks alone
set_option linter.unusedVariables false
set_option linter.unusedSimpArgs false

/-! ### why_Path: function 40 -/
open Go.Maps in
/-- A map[int]int of the call's own, block b, of at most n entries: it is F. -/
def MI (w : World) (b n : Nat) (F : Int → Option Int) : Prop := ∃ D : DataW Unit, w.ownsMap Try.prog 3 (plainElem Try.prog 3) b n D ∧ IsMap D ∧ ∀ i : Int, D.atKey (.int .i64 i) (.lit (.int .i64 0)) = .lit (.int .i64 ((F i).getD 0)) ∧ Maps.has D (.int .i64 i) = (F i).isSome
theorem mi_zero (w : World) : (zeroValue 3).run Try.prog w = .ok (.int .i64 0) w := by kernel_rfl
theorem mi_made (w : World) : MI (w.alloc (.map #[] 0)) w.heap.size 0 (fun _ => none) :=
  ⟨.map [], World.ownsMap_made w _ _ _, Maps.isMap_empty, fun i => ⟨rfl, rfl⟩⟩
theorem mi_mono {w : World} {b n n' : Nat} {F : Int → Option Int} (h : MI w b n F) (hn : n ≤ n') : MI w b n' F := by
  obtain ⟨D, h1, h2, h3⟩ := h
  exact ⟨D, h1.mono hn, h2, h3⟩
theorem mi_lt {w : World} {b n : Nat} {F : Int → Option Int} (h : MI w b n F) : b < w.heap.size := by
  obtain ⟨D, h1, _⟩ := h
  exact h1.lt
theorem mi_kept {w w' : World} {b n : Nat} {F : Int → Option Int} {row : Option Nat} (h : MI w b n F) (hg : w.grownBy w' row) (hne : some b ≠ row) : MI w' b n F := by
  obtain ⟨D, h1, h2, h3⟩ := h
  exact ⟨D, h1.kept hg hne, h2, h3⟩
theorem mi_below {w w' : World} {b n : Nat} {F : Int → Option Int} (h : MI w b n F) (hb : Below w.heap.size w w') : MI w' b n F := mi_kept h (grown_of_below hb none) (by simp)
set_option maxRecDepth 100000 in
theorem mi_look {w : World} {b n : Nat} {F : Int → Option Int} (h : MI w b n F) (i : Int) (hi : okI i = true) : (Instr.lookup 101 (.map (some b)) (.int .i64 i) true).run Try.prog w = .ok (.tuple #[.int .i64 ((F i).getD 0), .bool (F i).isSome]) w := by
  obtain ⟨D, h1, _, h3⟩ := h
  obtain ⟨v, ps, hrun, hv⟩ := h1.look_ok mb_keyed Try.underlying101 (mi_zero w) (plainElem_int Try.underlying3 (by decide)) (Maps.keyOf_int_mk Try.underlying3 hi)
  obtain ⟨x, rfl, hx, _⟩ := plainElem_int_inv Try.underlying3 hv
  rw [(h3 i).1] at hx
  simp only [Prod.mk.injEq] at hx
  have h4 : (F i).getD 0 = x := by
    have := hx.1
    injection this with this
    injection this
  rw [h4, ← (h3 i).2]
  exact hrun
set_option maxRecDepth 100000 in
theorem mi_look1 {w : World} {b n : Nat} {F : Int → Option Int} (h : MI w b n F) (i : Int) (hi : okI i = true) : (Instr.lookup 101 (.map (some b)) (.int .i64 i) false).run Try.prog w = .ok (.int .i64 ((F i).getD 0)) w := by
  obtain ⟨D, h1, _, h3⟩ := h
  obtain ⟨c, hrun, hv, _⟩ := h1.lookup_int mb_keyed Try.underlying101 Try.underlying3 (mi_zero w) (Maps.keyOf_int_mk Try.underlying3 hi)
  rw [(h3 i).1] at hv
  have h4 : (F i).getD 0 = c := by
    injection hv with this
    injection this
  rw [h4]
  exact hrun
def mput (F : Int → Option Int) (i v : Int) : Int → Option Int := fun j => if j = i then some v else F j
set_option maxRecDepth 100000 in
theorem mi_put {w : World} {b n : Nat} {F : Int → Option Int} (h : MI w b n F) (hn : n < maxLen) (i v : Int) (hi : okI i = true) (hv : okI v = true) :
    ∃ w', (Instr.mapUpdate 101 (.map (some b)) (.int .i64 i) (.int .i64 v)).run Try.prog w = .ok () w' ∧ MI w' b (n + 1) (mput F i v) ∧ w.grownBy w' (some b) := by
  obtain ⟨D, h1, h2, h3⟩ := h
  obtain ⟨w', hrun, ho, hg⟩ := h1.update mb_keyed Try.underlying101 hn (Maps.keyOf_int_mk Try.underlying3 hi) (plainElem_int Try.underlying3 hv)
  refine ⟨w', hrun, ⟨_, ho, h2.put _ _, fun j => ?_⟩, hg⟩
  unfold mput
  by_cases e : j = i
  · subst e
    rw [if_pos rfl, Maps.atKey_put_same h2 (by first | exact trivial | simp [WideAt.IsKeyLit] | decide), Maps.has_put_same h2 (by first | exact trivial | simp [WideAt.IsKeyLit] | decide)]
    exact ⟨rfl, rfl⟩
  · rw [if_neg e, Maps.atKey_put_other (by intro h; injection h with _ h; exact e h), Maps.has_put_other (by intro h; injection h with _ h; exact e h)]
    exact h3 j
/-- What a store into the map makes of the world. -/
noncomputable def mapPutI (w : World) (b : Nat) (i v : Int) : World := match (Instr.mapUpdate 101 (.map (some b)) (.int .i64 i) (.int .i64 v)).run Try.prog w with
  | .ok _ w' => w'
  | _ => w
theorem mi_run {w : World} {b n : Nat} {F : Int → Option Int} (h : MI w b n F) (hn : n < maxLen) (i v : Int) (hi : okI i = true) (hv : okI v = true) :
    (Instr.mapUpdate 101 (.map (some b)) (.int .i64 i) (.int .i64 v)).run Try.prog w = .ok () (mapPutI w b i v) ∧ MI (mapPutI w b i v) b (n + 1) (mput F i v) ∧ w.grownBy (mapPutI w b i v) (some b) := by
  obtain ⟨w', hrun, h1, h2⟩ := mi_put h hn i v hi hv
  have e : mapPutI w b i v = w' := by unfold mapPutI; rw [hrun]
  rw [e]
  exact ⟨hrun, h1, h2⟩
/-- The state of rounds that fill a map of the call's own, block bm: what was made lies where it lay; the map is F, of at most n entries. -/
structure MapIs (w : World) (bm : Nat) (ks : List (Nat × Obj)) (n : Nat) (F : Int → Option Int) (wr : World) : Prop where
  below : Below w.heap.size w wr
  base : w.heap.size ≤ bm
  kept : ∀ p ∈ ks, p.1 ≠ bm ∧ wr.heap[p.1]? = some p.2
  map : MI wr bm n F
theorem mj_alloc {w : World} {bm n : Nat} {ks : List (Nat × Obj)} {F : Int → Option Int} {wr : World} (h : MapIs w bm ks n F wr) (o : Obj) : MapIs w bm ks n F (wr.alloc o) :=
  ⟨h.below.alloc h.below.size o, h.base, fun p hp => ⟨(h.kept p hp).1, blk_alloc (h.kept p hp).2 o⟩, mi_below h.map (below_alloc (Below.refl _ _) o)⟩
theorem mj_more {w : World} {bm n : Nat} {ks : List (Nat × Obj)} {F : Int → Option Int} {wr : World} (h : MapIs w bm ks n F wr) (o : Obj) : MapIs w bm ((wr.heap.size, o) :: ks) n F (wr.alloc o) := by
  have h1 := mj_alloc h o
  refine ⟨h1.below, h1.base, fun p hp => ?_, h1.map⟩
  rcases List.mem_cons.1 hp with rfl | hp
  · have := mi_lt h.map
    exact ⟨by simp; omega, blk_new wr o⟩
  · exact h1.kept p hp
theorem mj_drewN {w : World} {bm k : Nat} {ks : List (Nat × Obj)} {F : Int → Option Int} {wr : World} (h : MapIs w bm ks k F wr) (n : Nat) : MapIs w bm ks k F (wr.drewN n) :=
  ⟨pw_below_drewN h.below n, h.base, h.kept, mi_below h.map (pw_below_drewN (Below.refl _ _) n)⟩
theorem mj_drew {w : World} {bm k : Nat} {ks : List (Nat × Obj)} {F : Int → Option Int} {wr : World} (h : MapIs w bm ks k F wr) : MapIs w bm ks k F wr.drew :=
  ⟨below_drew h.below, h.base, h.kept, mi_below h.map (below_drew (Below.refl _ _))⟩
theorem mj_put {w : World} {bm n : Nat} {ks : List (Nat × Obj)} {F : Int → Option Int} {wr : World} (h : MapIs w bm ks n F wr) (i v : Int) (hi : okI i = true) (hv : okI v = true) (hn : n < maxLen) :
    (Instr.mapUpdate 101 (.map (some bm)) (.int .i64 i) (.int .i64 v)).run Try.prog wr = .ok () (mapPutI wr bm i v) ∧ MapIs w bm ks (n + 1) (mput F i v) (mapPutI wr bm i v) ∧ wr.grownBy (mapPutI wr bm i v) (some bm) := by
  obtain ⟨h1, h2, h3⟩ := mi_run h.map hn i v hi hv
  have hb := h.base
  refine ⟨h1, ⟨⟨h3.os.trans h.below.os, h3.tape.trans h.below.tape, h3.output.trans h.below.output, Nat.le_trans h.below.size h3.size, fun k hk => ?_⟩, h.base, fun p hp => ?_, h2⟩, h3⟩
  · exact (h3.block k (Nat.lt_of_lt_of_le hk h.below.size) (by simp; omega)).trans (h.below.block k hk)
  · obtain ⟨ha, hc⟩ := h.kept p hp
    exact ⟨ha, (h3.block p.1 (blk_lt hc) (by simp; exact ha)).trans hc⟩
theorem mj_below {w : World} {bm n : Nat} {ks : List (Nat × Obj)} {F : Int → Option Int} {wr w' : World} (h : MapIs w bm ks n F wr) (hb : Below wr.heap.size wr w') : MapIs w bm ks n F w' :=
  ⟨below_then h.below h.below.size hb, h.base, fun p hp => ⟨(h.kept p hp).1, (hb.block p.1 (blk_lt (h.kept p hp).2)).trans (h.kept p hp).2⟩, mi_below h.map hb⟩

theorem ownM {w : World} {b n : Nat} {F : Int → Option Int} (h : MI w b n F) : ∃ es c, w.heap[b]? = some (.map es c) := by
  obtain ⟨D, ⟨es, c, h1, _⟩, _⟩ := h
  exact ⟨es, c, h1⟩
theorem Q_overM {e base : Nat} {ok : Nat → Prop} {w w1 : World} {v : Value} {xs : List Int} {bm : Nat} (h : Kd.Q (Kd.int .i64) e w base ok v xs) (hm : ∃ es c, w.heap[bm]? = some (.map es c)) (hg : w.grownBy w1 (some bm)) : Kd.Q (Kd.int .i64) e w1 base ok v xs := by
  obtain ⟨es, c, hm⟩ := hm
  refine Kd.Q_grown2 h rfl hg fun k hk he => ?_
  obtain rfl := Option.some.inj hk
  obtain ⟨cells, hc⟩ := Kd.Q_typed h _ he.symm
  rw [hm] at hc
  cases hc
theorem Q_notM {e base : Nat} {ok : Nat → Prop} {w : World} {v : Value} {xs : List Int} {bm : Nat} (h : Kd.Q (Kd.int .i64) e w base ok v xs) (hm : ∃ es c, w.heap[bm]? = some (.map es c)) : some bm ≠ v.ownBlock := fun he => by
  obtain ⟨es, c, hm⟩ := hm
  obtain ⟨cells, hc⟩ := Kd.Q_typed h bm he.symm
  rw [hm] at hc
  cases hc

theorem least_ex (p : Nat → Prop) (h : ∃ k, p k) : ∃ k, p k ∧ ∀ j, p j → k ≤ j := by
  obtain ⟨k, hk⟩ := h
  induction k using Nat.strongRecOn with
  | _ k ih =>
    by_cases hj : ∃ j, j < k ∧ p j
    · obtain ⟨j, hlt, hp⟩ := hj
      exact ih j hlt hp
    · exact ⟨k, hk, fun j hp => Nat.le_of_not_lt fun hlt => hj ⟨j, hlt, hp⟩⟩
theorem scope_fuel {P : Program} {a : Act} {w : World} {Q : Exit → Act → World → Prop} {c rest : Code} (l : Nat) (J : Nat → Act → World → Prop) (hf : findLabel c l = some (Code.skip.seq rest))
    (first : Aside0 (∀ k a w, J k a w → rest.wp P (Exit.jump l (fun a w => ∃ k, J k a w) Q) a w) → c.wp P (Exit.jump l (fun a w => ∃ k, J k a w) Q) a w)
    (pass : ∀ k a w, J k a w → rest.wp P (Exit.jump l (fun a' w' => ∃ k', k' < k ∧ J k' a' w') Q) a w) : (Code.scope c).wp P Q a w := by
  classical
  refine wp_scope_jumps l (fun a w => ∃ k, J k a w) (fun a w => if h : ∃ k, J k a w then Classical.choose (least_ex (fun k => J k a w) h) else 0) hf (first ⟨fun k a w hj => wp_mono (pass k a w hj) fun e a' w' h => ?_⟩) ?_
  · cases e with
    | goto l' =>
      obtain ⟨h1, k', _, hj⟩ := h
      exact ⟨h1, k', hj⟩
    | normal => exact h
    | exit _ => exact h
    | ret => exact h
    | panic _ => exact h
    | outgrown => exact h
  intro a w hJ
  have hs := Classical.choose_spec (least_ex (fun k => J k a w) hJ)
  refine wp_mono (wp_seq (wp_skip (pass _ a w hs.1))) ?_
  intro e a' w' h
  cases e with
  | goto l' =>
    obtain ⟨rfl, k', hk, hj⟩ := h
    refine ⟨rfl, ⟨k', hj⟩, ?_⟩
    have hex : ∃ k, J k a' w' := ⟨k', hj⟩
    have h1 := (Classical.choose_spec (least_ex (fun k => J k a' w') hex)).2 k' hj
    rw [dif_pos hex, dif_pos hJ]
    omega
  | normal => exact h
  | exit _ => exact h
  | ret => exact h
  | panic _ => exact h
  | outgrown => exact h
/-- Where so many steps lead. -/
def farStep (x : Int) (st : (Int → Option Int) × List Int) (y : Int) : (Int → Option Int) × List Int := if (st.1 y).isSome = true then st else (mput st.1 y ((st.1 x).getD 0 + 1), st.2 ++ [y])
def farPass (x : Int) : List Int → (Int → Option Int) × List Int → (Int → Option Int) × List Int
  | [], st => st
  | y :: r, st => farPass x r (farStep x st y)
def farLoop : Nat → List S34 → (Int → Option Int) → List Int → Nat → Option (Int → Option Int)
  | 0, _, _, _, _ => none
  | k + 1, L, F, O, c => if 1000000000 < c ∨ 1000000000 < O.length then none else (match O with
    | [] => some F
    | x :: r => farLoop k L (farPass x (nearL L x) (F, r)).1 (farPass x (nearL L x) (F, r)).2 (c + (nearL L x).length + 1))
def why_far.f (k : Nat) (E : List Int) (L : List S34) (V : List Int) (s : Int) : Option (Int → Option Int) := if okL L = true ∧ okI s = true ∧ L.length ≤ 1000000 then farLoop k L (mput (fun _ => none) s 0) [s] 1 else none
theorem farLoop_mono : ∀ k, (∀ y0 y1 y2 y3, LeO (farLoop k y0 y1 y2 y3) (farLoop (k + 1) y0 y1 y2 y3))
  | 0 => fun _ _ _ _ r h => by simp [farLoop] at h
  | k + 1 => by
    have ih0 := farLoop_mono k
    intro y0 y1 y2 y3
    unfold farLoop
    cases y2 with
    | nil => exact LeO.refl _
    | cons x r => exact LeO.ite (LeO.refl _) (ih0 _ _ _ _)
theorem why_far.mono : ∀ a0 a1 a2 a3 k, LeO (why_far.f k a0 a1 a2 a3) (why_far.f (k + 1) a0 a1 a2 a3) := by
  intro a0 a1 a2 a3 k
  unfold why_far.f
  exact LeO.ite (farLoop_mono _ _ _ _ _) (LeO.refl _)
theorem far_info : (Try.prog.info? 3).map (fun i => (i.zero, i.size, i.bytes)) = some (some (.int .i64 0), 1, 8) := by kernel_rfl
theorem far_size : ∃ i, Try.prog.info? 3 = some i ∧ i.size = 1 := by
  obtain ⟨i, hi, h⟩ := Option.map_eq_some_iff.1 far_info
  simp only [Prod.mk.injEq] at h
  exact ⟨i, hi, h.2.1⟩
theorem compact_sub (xs : List Int) (y : Int) (h : y ∈ Lib.compact xs) : y ∈ xs := by
  unfold Lib.compact Lib.compactUpTo at h
  obtain ⟨j, hj, rfl⟩ := List.mem_map.1 h
  have hlt := List.mem_range.1 (List.mem_filter.1 hj).1
  rw [getElem!_pos _ _ (by simpa using hlt)]
  simp
theorem near_mem (L : List S34) (a y : Int) (h : y ∈ nearL L a) : (∃ p ∈ L, y = p.f0 ∨ y = p.f1) ∧ y ≠ a := by
  have h := compact_sub _ y h
  rw [List.mem_mergeSort] at h
  unfold nearRaw at h
  obtain ⟨p, hp, hy⟩ := List.mem_flatMap.1 h
  unfold nearAdd at hy
  rcases List.mem_append.1 hy with hy | hy
  · split at hy
    · rename_i hc
      rw [List.mem_singleton.1 hy]
      exact ⟨⟨p, hp, .inr rfl⟩, hc.2⟩
    · cases hy
  · split at hy
    · rename_i hc
      rw [List.mem_singleton.1 hy]
      exact ⟨⟨p, hp, .inl rfl⟩, hc.2⟩
    · cases hy
theorem near_ok (L : List S34) (h : okL L = true) (a y : Int) (hy : y ∈ nearL L a) : okI y = true ∧ y ≠ a := by
  obtain ⟨⟨p, hp, e⟩, hne⟩ := near_mem L a y hy
  refine ⟨?_, hne⟩
  unfold okL at h
  rw [List.all_eq_true] at h
  have := h p hp
  rw [Bool.and_eq_true] at this
  rcases e with rfl | rfl
  · exact this.1
  · exact this.2
theorem near_len (L : List S34) (a : Int) : (nearL L a).length ≤ 2 * L.length := by
  unfold nearL
  refine Nat.le_trans (Lib.compact_length_le _) ?_
  rw [List.length_mergeSort]
  exact nearRaw_len a L
theorem near_any (A0_0 : Option Addr) (c0_0 : Nat) (l0_0 : List Int) (A0_1 : Option Addr) (c0_1 : Nat) (l0_1 : List S34) (A0_2 : Option Addr) (c0_2 : Nat) (l0_2 : List Int) (x : Int) (W : World)
    (hr0_0 : Kd.C (Kd.int .i64) W A0_0 l0_0.length l0_0) (hc0_0 : l0_0.length ≤ c0_0) (hr0_1 : Kd.C k34 W A0_1 l0_1.length l0_1) (hc0_1 : l0_1.length ≤ c0_1) (hr0_2 : Kd.C (Kd.int .i64) W A0_2 l0_2.length l0_2) (hc0_2 : l0_2.length ≤ c0_2) (hL : l0_1.length ≤ 1000000) :
    Calls Try.prog 43 #[.agg #[.slice A0_0 l0_0.length c0_0, .slice A0_1 l0_1.length c0_1, .slice A0_2 l0_2.length c0_2], .int .i64 x] W fun e w' => ∃ v0_ : Value, e = .returned (v0_) ∧ Kd.R (Kd.int .i64) 3 w' W.heap.size (fun _ => True) v0_ (nearL l0_1 x) ∧ Below W.heap.size W w' :=
  why_Near.calls 0 A0_0 c0_0 l0_0 A0_1 c0_1 l0_1 A0_2 c0_2 l0_2 x _ W hr0_0 hc0_0 hr0_1 hc0_1 hr0_2 hc0_2 (by unfold why_Near.f; rw [if_pos hL])
set_option maxHeartbeats 4000000 in
set_option maxRecDepth 100000 in
theorem why_far.calls (k : Nat) (A0_0 : Option Addr) (c0_0 : Nat) (l0_0 : List Int) (A0_1 : Option Addr) (c0_1 : Nat) (l0_1 : List S34) (A0_2 : Option Addr) (c0_2 : Nat) (l0_2 : List Int) (a1 : Int) (r : Int → Option Int) (w : World)
    (hr0_0 : Kd.C (Kd.int .i64) w A0_0 l0_0.length l0_0) (hc0_0 : l0_0.length ≤ c0_0) (hr0_1 : Kd.C k34 w A0_1 l0_1.length l0_1) (hc0_1 : l0_1.length ≤ c0_1) (hr0_2 : Kd.C (Kd.int .i64) w A0_2 l0_2.length l0_2) (hc0_2 : l0_2.length ≤ c0_2) (h : why_far.f k l0_0 l0_1 l0_2 a1 = some r) :
    Calls Try.prog 71 #[.agg #[.slice A0_0 l0_0.length c0_0, .slice A0_1 l0_1.length c0_1, .slice A0_2 l0_2.length c0_2], .int .i64 a1] w fun e w' => ∃ (bm : Nat) (n : Nat), e = .returned (.map (some bm)) ∧ w.heap.size ≤ bm ∧ MI w' bm n r ∧ Below w.heap.size w w' := by
  have hu51 := Try.underlying51
  have hu24 := Try.underlying24
  unfold why_far.f at h
  by_cases hok : okL l0_1 = true ∧ okI a1 = true ∧ l0_1.length ≤ 1000000
  · rw [if_pos hok] at h
    obtain ⟨hokL, hoka, hLl⟩ := hok
    have HLK := Lib.hid hokL
    have HF := Aside0.mk h
    have HNR := Aside0.mk (fun (W : World) (hb : Below w.heap.size w W) (x : Int) => near_any A0_0 c0_0 l0_0 A0_1 c0_1 l0_1 A0_2 c0_2 l0_2 x W (Kd.C_below hr0_0 hb) hc0_0 (Kd.C_below hr0_1 hb) hc0_1 (Kd.C_below hr0_2 hb) hc0_2 hLl)
    clear hokL hr0_0 hr0_1 hr0_2 hc0_0 hc0_1 hc0_2 h
    generalize Value.slice A0_0 l0_0.length c0_0 = s0 at *
    generalize Value.slice A0_1 l0_1.length c0_1 = s1 at *
    generalize Value.slice A0_2 l0_2.length c0_2 = s2 at *
    obtain ⟨wb, hwb⟩ : ∃ wb, w.alloc (.cells #[s0, s1, s2] 51) = wb := ⟨_, rfl⟩
    have hmm := @run_makeMap Try.prog
    obtain ⟨bm, hbm⟩ : ∃ bm, wb.heap.size = bm := ⟨_, rfl⟩
    have hszb : bm = w.heap.size + 1 := by rw [← hbm, ← hwb]; simp
    have HSZ := Lib.hid hszb
    obtain ⟨w2, hrun2, hm2, hg2⟩ := mi_put (mi_made wb) (by decide) a1 0 hoka (by decide)
    rw [hbm] at hrun2 hm2 hg2
    have hMJ : MapIs w bm [(w.heap.size, .cells #[s0, s1, s2] 51 (0, 0))] 1 (mput (fun _ => none) a1 0) w2 := by
      have hb0 : Below w.heap.size w (wb.alloc (.map #[] 0)) := by rw [← hwb]; exact below_alloc (below_alloc (Below.refl _ _) _) _
      have hblk : (wb.alloc (.map #[] 0)).heap[w.heap.size]? = some (.cells #[s0, s1, s2] 51 (0, 0)) := by rw [← hwb]; exact blk_alloc (blk_new w _) _
      refine ⟨pw_below_grown hb0 (some bm) hb0.size hg2 (by intro k hk; cases hk; omega), by omega, fun p hp => ?_, hm2⟩
      rw [List.mem_singleton.1 hp]
      exact ⟨by omega, (hg2.block _ (blk_lt hblk) (by simp; omega)).trans hblk⟩
    have HWB := Lib.hid hwb
    have HM2 := Aside0.mk hMJ
    clear hm2 hg2 hMJ hszb
    go_enter Try.func71, Try.ntmps71
    go_wp2
    refine scope_fuel 0 (fun kq a' wr => ∃ (F : Int → Option Int) (O : List Int) (c : Nat) (v6 u7 u8 u9 u10 u11 u17 u18 u19 u20 u21 u22 u23 u24 u25 u26 u27 u28 u29 u30 u31 u32 u33 u34 u35 u36 u37 u38 u39 u40 u41 u42 u43 u44 u45 u46 u47 u48 u49 u50 u51 u52 : Value),
      Aside0 (farLoop kq l0_1 F O c = some r) ∧ Hid (∀ i v, F i = some v → 0 ≤ v ∧ v ≤ c) ∧ Hid (∀ y ∈ O, okI y = true) ∧ Aside0 (MapIs w bm [(w.heap.size, .cells #[s0, s1, s2] 51 (0, 0))] c F wr) ∧ Aside0 (Kd.Q (Kd.int .i64) 3 wr w.heap.size (fun _ => True) v6 O) ∧
      a' = { tmps := #[.agg #[s0, s1, s2], .int .i64 a1, .pointer (some ⟨w.heap.size, 0, none⟩), undef, .map none, .map (some bm), v6, u7, u8, u9, u10, u11, .map (some bm), .int .i64 a1, .map (some bm), .int .i64 a1, .slice (some ⟨w2.heap.size, 0, none⟩) 1 1, u17, u18, u19, u20, u21, u22, u23, u24, u25, u26, u27, u28, u29, u30, u31, u32, u33, u34, u35, u36, u37, u38, u39, u40, u41, u42, u43, u44, u45, u46, u47, u48, u49, u50, u51, u52], defers := [] }) rfl ?_ ?_
    · intro HREST
      go_wp2
      refine wp_label ?_
      rename_i hgo
      refine hgo _ _ ?_
      refine HREST.out k _ _ ⟨mput (fun _ => none) a1 0, [a1], 1, _, _, _, _, _, _, _, _, _, _, _, _, _, _, _, _, _, _, _, _, _, _, _, _, _, _, _, _, _, _, _, _, _, _, _, _, _, _, _, _, _, _, HF, ?hv, ?hk, ?hm, ?hq, rfl⟩
      case hv => exact Lib.hid (fun i v h => by unfold mput at h; split at h; (cases h; omega); cases h)
      case hk => exact Lib.hid (fun y hy => by rw [List.mem_singleton.1 hy]; exact hoka)
      case hm => exact ⟨mj_alloc HM2.out _⟩
      case hq => exact ⟨Kd.Q_of_R (Kd.R_of_own (enc := Value.int .i64) (h1 := fun _ => rfl) (ok := fun _ => True) (own_lit w2 w.heap.size 3 .i64 [a1] HM2.out.below.size (by simp)) (fun _ _ => trivial))⟩
    · clear HF HM2 hrun2
      rintro kq a' wr ⟨F, O, c, v6, u7, u8, u9, u10, u11, u17, u18, u19, u20, u21, u22, u23, u24, u25, u26, u27, u28, u29, u30, u31, u32, u33, u34, u35, u36, u37, u38, u39, u40, u41, u42, u43, u44, u45, u46, u47, u48, u49, u50, u51, u52, HF, HV, HK, HMJ, HQ, rfl⟩
      cases kq with
      | zero => exact absurd HF.out (by simp [farLoop])
      | succ k1 =>
      have H := HF.out
      clear HF
      cases O with
      | nil =>
        simp only [farLoop] at H
        split at H
        · cases H
        obtain rfl := Option.some.inj H
        obtain ⟨A, cc, hv, hc⟩ := Kd.Q_slice HQ.out
        subst hv
        clear H
        go_wp2
        simp only [Exit.jump]
        go_ret
        exact ⟨bm, c, rfl, HMJ.out.base, HMJ.out.map, HMJ.out.below⟩
      | cons x rest =>
        simp only [farLoop] at H
        split at H
        · cases H
        rename_i hbig
        obtain ⟨hcb, hob⟩ : c ≤ 1000000000 ∧ (x :: rest).length ≤ 1000000000 := by omega
        clear hbig
        obtain ⟨A, cc, hv, hc⟩ := Kd.Q_slice HQ.out
        subst hv
        obtain ⟨ad, ead, hx0⟩ := Kd.at_int (Kd.Q_reads' HQ.out).2.2 0 (by omega) (by simp)
        cases ead
        have hx0' : wr.cell? ad = some (.int .i64 x) := by
          have h_ : wr.cell? (ad.add 0) = some (.int .i64 x) := hx0
          simpa [Addr.add] using h_
        obtain ⟨m, hm⟩ : ∃ m, (x :: rest).length = m := ⟨_, rfl⟩
        have hmp : 0 < m := by rw [← hm]; simp
        have hmp' : (0 : Int) < (m : Int) := by omega
        have hmz : ((m : Int) == 0) = false := beq_eq_false_iff_ne.2 (by omega)
        have hdr := Kd.Q_drop HQ.out (k := 1) (by simp)
        obtain ⟨ti, hti, hts⟩ := far_size
        have hcut := cut_from (P := Try.prog) 24 3 .i64 hu24 hti 1 hts (some ad) m cc 1 (by omega) (by omega)
        rw [hm] at hdr hc hob ⊢
        obtain ⟨v8, hv8⟩ : ∃ v8, Value.slice (if cc = 1 then some ad else (some ad).map (·.add (1 * 1))) (m - 1) (cc - 1) = v8 := ⟨_, rfl⟩
        have hcut2 : ∀ W : World, (Instr.slice 24 (.slice (some ad) m cc) (some (.int .i64 1)) none none).run Try.prog W = .ok v8 W := by
          rw [← hv8]
          exact hcut
        have hdr2 : Kd.Q (Kd.int .i64) 3 wr w.heap.size (fun _ => True) v8 rest := by
          rw [← hv8]
          exact hdr
        have HQ2 := Aside0.mk hdr2
        have hrl : rest.length ≤ 1000000000 := by simp at hm; omega
        clear hcut hdr hdr2 hv8 hti hts hx0 hm HQ
        have hokx : okI x = true := HK.out x (by simp)
        have hkr : Hid (∀ y ∈ rest, okI y = true) := Lib.hid (fun y hy => HK.out y (by simp [hy]))
        obtain ⟨PS, hPS⟩ : ∃ PS, farPass x (nearL l0_1 x) (F, rest) = PS := ⟨_, rfl⟩
        rw [hPS] at H
        have HH := Aside0.mk H
        have HP0 := Aside0.mk (show farPass x ((nearL l0_1 x).drop 0) (F, rest) = PS from hPS)
        have hq0 := (HMJ.out.kept (w.heap.size, _) (List.mem_singleton.2 rfl)).2
        dsimp only at hq0
        have g0 : wr.cell? ⟨w.heap.size, 0, none⟩ = some s0 := (blk_cell hq0 0).trans rfl
        have g1 : wr.cell? ⟨w.heap.size, 1, none⟩ = some s1 := (blk_cell hq0 1).trans rfl
        have g2 : wr.cell? ⟨w.heap.size, 2, none⟩ = some s2 := (blk_cell hq0 2).trans rfl
        have HNX := Aside0.mk (HNR.out wr HMJ.out.below x)
        clear H hPS hq0 HK
        go_wp2_with fail
        refine HNX.out.mono ?_
        rintro e w4 ⟨vN, rfl, hoN, hb4⟩
        obtain ⟨AN, cN, rfl⟩ := Kd.R_slice hoN
        have hap : ∀ k, v8.ownBlock = some k → (Value.slice AN (nearL l0_1 x).length cN).ownBlock ≠ some k := fun k hk he => by
          have h1 := (Kd.Q_bound HQ2.out).1 k hk
          obtain ⟨_, _, hown, _⟩ := hoN
          have h2 := own_base hown k he
          have := h1.2.2.1
          omega
        have HAP0 := Lib.hid hap
        have HN0 := Aside0.mk hoN
        have HM0 := Aside0.mk (mj_below HMJ.out hb4)
        have HQ0 := Aside0.mk (Kd.Q_below HQ2.out hb4)
        have hnl := near_len l0_1 x
        have HYK := Lib.hid (fun y hy => near_ok l0_1 HLK.out x y hy)
        obtain ⟨ys, hys⟩ : ∃ ys, nearL l0_1 x = ys := ⟨_, rfl⟩
        rw [hys] at HAP0 HN0 hnl HYK HP0
        replace HYK : Hid (∀ y ∈ ys, okI y = true ∧ y ≠ x) := HYK
        obtain ⟨nY, hnY⟩ : ∃ nY, ys.length = nY := ⟨_, rfl⟩
        have hzx : 0 ≤ (F x).getD 0 ∧ (F x).getD 0 ≤ (c : Int) := by
          cases hfx : F x with
          | none => exact ⟨Int.le_refl _, by show (0 : Int) ≤ c; omega⟩
          | some v => exact HV.out x v hfx
        have HV0 := Lib.hid (show ∀ i v, F i = some v → 0 ≤ v ∧ v ≤ (c : Int) + 1 from fun i v h => by have := HV.out i v h; omega)
        have HFX := Lib.hid (show (F x).getD 0 = (F x).getD 0 from rfl)
        obtain ⟨z, hz⟩ : ∃ z, (F x).getD 0 = z := ⟨_, rfl⟩
        have HHY : Aside0 (farLoop k1 l0_1 PS.1 PS.2 (c + nY + 1) = some r) := ⟨by have := HH.out; rw [hys, hnY] at this; exact this⟩
        rw [hys, hnY]
        rw [hnY] at HAP0 HN0 hnl
        rw [hz] at hzx
        have HZ0 := Lib.hid (show (F x).getD 0 = z from hz)
        have HNY := Lib.hid hnY
        clear hap hoN hb4 HQ2 HMJ hys hnY hz HFX HV HH HNX g0 g1 g2 hx0' hcut2
        go_wp2
        go_loopg [6, 9, 10, 11, 30] nY (fun gg s6 _ _ _ s30 wr => ∃ (j : Nat) (st : (Int → Option Int) × List Int), s30 = .int .i64 j ∧ j ≤ nY ∧ nY - j ≤ gg ∧ st.2.length ≤ rest.length + j ∧ Aside0 (farPass x (ys.drop j) st = PS) ∧ Hid (∀ i v, st.1 i = some v → 0 ≤ v ∧ v ≤ (c : Int) + 1) ∧ Hid ((st.1 x).getD 0 = z) ∧ Hid (∀ y ∈ st.2, okI y = true) ∧ Aside0 (MapIs w bm [(w.heap.size, .cells #[s0, s1, s2] 51 (0, 0))] (c + j) st.1 wr) ∧ Aside0 (Kd.Q (Kd.int .i64) 3 wr w.heap.size (fun _ => True) s6 st.2) ∧ Aside0 (∃ nb, Kd.R (Kd.int .i64) 3 wr nb (fun _ => True) (.slice AN nY cN) ys) ∧ Hid (∀ k, s6.ownBlock = some k → (Value.slice AN nY cN).ownBlock ≠ some k))
        case atStart => exact ⟨0, (F, rest), rfl, by omega, by omega, by dsimp only; omega, HP0, HV0, HZ0, hkr, HM0, HQ0, ⟨_, HN0.out⟩, HAP0⟩
        case round =>
          clear HP0 HV0 HZ0 hkr HM0 HQ0 HN0 HAP0
          obtain ⟨j, st, rfl, hj, hgj, hsl, HP, HV, HZ, HK, HMJ, HQ, HN, HAP⟩ := hrel
          by_cases hlt : j < nY
          · have hltz : (j : Int) < (nY : Int) := by omega
            obtain ⟨F1, O1⟩ := st
            dsimp only at hsl HP HV HZ HK HMJ HQ
            obtain ⟨nb, hN⟩ := HN.out
            obtain ⟨adN, eN, hy0⟩ := Kd.at_int (Kd.R_reads' hN).2.2 (j : Int) (by omega) (by rw [HNY.out]; omega)
            rw [Int.toNat_natCast] at hy0
            have hdr := drop_int ys j (by rw [HNY.out]; exact hlt)
            have hq := HP.out
            rw [hdr, farPass] at hq
            have hyok2 : okI (rd ys (j : Int)) = true ∧ rd ys (j : Int) ≠ x := HYK.out _ (by
              show ys.getD (j : Int).toNat 0 ∈ ys
              rw [Int.toNat_natCast, List.getD_eq_getElem?_getD, List.getElem?_eq_getElem (by rw [HNY.out]; exact hlt)]
              exact List.getElem_mem _)
            have HQP := Aside0.mk hq
            clear hq hdr HP
            generalize rd ys (j : Int) = y at hy0 HQP hyok2
            obtain ⟨hyok, hyx⟩ := hyok2
            have HYX := Lib.hid hyx
            clear hyx
            cases eN
            have hl1 := mi_look HMJ.out.map y hyok
            have hl2 := mi_look1 HMJ.out.map x hokx
            rw [HZ.out] at hl2
            clear hN
            cases hs : (F1 y).isSome with
            | true =>
              rw [hs] at hl1
              have HX := Aside0.mk (show farPass x (ys.drop (j + 1)) (F1, O1) = PS by
                have := HQP.out
                rw [show farStep x (F1, O1) y = (F1, O1) by unfold farStep; rw [if_pos hs]] at this
                exact this)
              clear HQP hs
              go_wp2
              go_roundg (nY - (j + 1))
              case measure => omega
              case rel => exact ⟨j + 1, (F1, O1), by go_num, by omega, Nat.le_refl _, by dsimp only; omega, HX, HV, HZ, HK, ⟨⟨HMJ.out.below, HMJ.out.base, HMJ.out.kept, mi_mono HMJ.out.map (by omega)⟩⟩, HQ, HN, HAP⟩
            | false =>
              rw [hs] at hl1
              have HX := Aside0.mk (show farPass x (ys.drop (j + 1)) (mput F1 y (z + 1), O1 ++ [y]) = PS by
                have := HQP.out
                rw [show farStep x (F1, O1) y = (mput F1 y (z + 1), O1 ++ [y]) by unfold farStep; rw [if_neg (by rw [hs]; exact Bool.false_ne_true)]; dsimp only; rw [HZ.out]] at this
                exact this)
              have hzok : okI (z + 1) = true := okI_of (by omega) (by omega)
              have hzw : IntKind.i64.wrap (z + 1) = z + 1 := Go.IntWalk.i64_in _ ⟨by omega, by omega⟩
              obtain ⟨r1, s1, g1⟩ := mj_put HMJ.out y (z + 1) hyok hzok (by unfold maxLen; omega)
              have HQ1 := Aside0.mk (Q_overM HQ.out (ownM HMJ.out.map) g1)
              have HN1 : Aside0 (∃ nb, Kd.R (Kd.int .i64) 3 (mapPutI wr bm y (z + 1)) nb (fun _ => True) (.slice (some adN) nY cN) ys) := by
                obtain ⟨nb, hN⟩ := HN.out
                refine ⟨nb, Kd.R_grown2 hN rfl g1 fun k hk he => ?_⟩
                obtain rfl := Option.some.inj hk
                obtain ⟨_, _, hown, _⟩ := hN
                obtain ⟨cells, hc⟩ := own_typed hown _ he.symm
                obtain ⟨es, cc', hmp⟩ := ownM HMJ.out.map
                rw [hmp] at hc
                cases hc
              have S1 := Aside0.mk s1
              have HV1 := Lib.hid (show ∀ i v, mput F1 y (z + 1) i = some v → 0 ≤ v ∧ v ≤ (c : Int) + 1 from fun i v h => by
                unfold mput at h
                split at h
                · obtain rfl := Option.some.inj h
                  omega
                · exact HV.out i v h)
              have HZ1 := Lib.hid (show (mput F1 y (z + 1) x).getD 0 = z by
                unfold mput
                rw [if_neg (fun e => HYX.out e.symm)]
                exact HZ.out)
              have HK1 := Lib.hid (show ∀ y' ∈ O1 ++ [y], okI y' = true from fun y' hy' => by
                rcases List.mem_append.1 hy' with h | h
                · exact HK.out y' h
                · rw [List.mem_singleton.1 h]
                  exact hyok)
              clear HQP hs s1 g1 HMJ HQ HN HV HZ HK
              go_wp2_with (at_builtin; refine Kd.Q_append (Kd.int .i64) (w0 := w) w.heap.size rfl _ _ 24 3 (.int .i64 0) 8 rfl Try.underlying24 far_info rfl (by decide) (by decide) u6 O1 y [.int .i64 y] (fun _ => True) (fun _ => False) rfl rfl rfl (fun _ h_ => h_.elim) (fun _ _ => trivial) HQ1.out S1.out.below S1.out.below.size ?hl ?hk)
              case hl => omega
              case hk =>
                intro v1 w3 ho hb hgr hat
                have HQ3 := Aside0.mk ho
                have HM3 := Aside0.mk (show MapIs w bm [(w.heap.size, .cells #[s0, s1, s2] 51 (0, 0))] (c + j + 1) (mput F1 y (z + 1)) w3 from
                  ⟨hb, S1.out.base, fun p hp => (by
                    obtain ⟨h1, h2⟩ := S1.out.kept p hp
                    refine ⟨h1, (hgr.block p.1 (blk_lt h2) fun he => ?_).trans h2⟩
                    obtain ⟨cells, hc⟩ := Kd.Q_typed HQ1.out _ he.symm
                    rw [List.mem_singleton.1 hp] at h2 hc
                    rw [h2] at hc
                    cases hc), mi_kept S1.out.map hgr (Q_notM HQ1.out (ownM S1.out.map))⟩)
                have HN3 : Aside0 (∃ nb, Kd.R (Kd.int .i64) 3 w3 nb (fun _ => True) (.slice (some adN) nY cN) ys) := by
                  obtain ⟨nb, hN⟩ := HN1.out
                  exact ⟨nb, Kd.R_grown2 hN rfl hgr fun k hk he => HAP.out k hk he.symm⟩
                have HAP3 := Lib.hid (show ∀ k, v1.ownBlock = some k → (Value.slice (some adN) nY cN).ownBlock ≠ some k from fun k hk he => by
                  rcases hat with h | ⟨b, h1, h2⟩
                  · rw [h] at hk
                    exact HAP.out k hk he
                  · rw [hk] at h1
                    obtain rfl := Option.some.inj h1
                    obtain ⟨nb, hN⟩ := HN1.out
                    obtain ⟨_, _, hown, _⟩ := hN
                    have := own_lt hown k he
                    omega)
                clear ho hb hgr hat
                go_wp2
                go_roundg (nY - (j + 1))
                case measure => omega
                case rel => exact ⟨j + 1, (mput F1 y (z + 1), O1 ++ [y]), by go_num, by omega, Nat.le_refl _, by dsimp only; rw [List.length_append, List.length_singleton]; omega, HX, HV1, HZ1, HK1, HM3, HQ3, HN3, HAP3⟩
          · have hltz : ¬ (j : Int) < (nY : Int) := by omega
            obtain rfl : j = nY := by omega
            have hP := HP.out
            rw [List.drop_of_length_le (by rw [HNY.out]; exact Nat.le_refl _)] at hP
            obtain rfl : st = PS := hP
            clear HP
            go_wp2
            refine wp_goto ?_
            refine ⟨rfl, k1, Nat.lt_succ_self _, st.1, st.2, c + j + 1, _, _, _, _, _, _, _, _, _, _, _, _, _, _, _, _, _, _, _, _, _, _, _, _, _, _, _, _, _, _, _, _, _, _, _, _, _, _, _, _, _, _, HHY, ?gv, HK, ?gm, HQ, rfl⟩
            case gv => exact Lib.hid (fun i v h => by have := HV.out i v h; omega)
            case gm => exact ⟨⟨HMJ.out.below, HMJ.out.base, HMJ.out.kept, mi_mono HMJ.out.map (by omega)⟩⟩
  · rw [if_neg hok] at h
    cases h

/-- Is a number a step nearer? -/
def pathP (F : Int → Option Int) (a x : Int) : Bool := (F x).isSome && ((F x).getD 0 == wrap64 ((F a).getD 0 - 1))
def idxFrom (p : Int → Bool) : List Int → Nat → Int
  | [], _ => -1
  | x :: r, j => if p x = true then (j : Int) else idxFrom p r (j + 1)
theorem idxFrom_in (p : Int → Bool) : ∀ (l : List Int) (j : Nat), idxFrom p l j = -1 ∨ ∃ i : Nat, i < l.length ∧ idxFrom p l j = ((j + i : Nat) : Int)
  | [], _ => .inl rfl
  | x :: r, j => by
    rw [idxFrom]
    split
    · exact .inr ⟨0, by simp, rfl⟩
    · rcases idxFrom_in p r (j + 1) with h | ⟨i, h1, h2⟩
      · exact .inl h
      · exact .inr ⟨i + 1, by simp; omega, by rw [h2]; congr 1; omega⟩
def pathLoop : Nat → List S34 → (Int → Option Int) → Int → Int → List Int → Option (List Int)
  | 0, _, _, _, _, _ => none
  | k + 1, L, F, a, b, l => if a = b then some l else if 1000000000 < l.length ∨ idxFrom (pathP F a) (nearL L a) 0 < 0 then none else
    pathLoop k L F (rd (nearL L a) (idxFrom (pathP F a) (nearL L a) 0)) b (l ++ [rd (nearL L a) (idxFrom (pathP F a) (nearL L a) 0)])
def why_Path.f (k : Nat) (E : List Int) (L : List S34) (V : List Int) (a b : Int) : Option (List Int × Bool) :=
  if E.all okI = true ∧ okL L = true ∧ L.length ≤ 1000000 then
    (why_edges.f E L V a b).bind fun t => if t.2.2 = false then some ([], false) else
      (why_far.f k E L V t.2.1).bind fun F => if (F t.1).isSome = false then some ([], false) else (pathLoop k L F t.1 t.2.1 [t.1]).bind fun l => some (l, true)
  else none
theorem pathLoop_mono : ∀ k, (∀ y0 y1 y2 y3 y4, LeO (pathLoop k y0 y1 y2 y3 y4) (pathLoop (k + 1) y0 y1 y2 y3 y4))
  | 0 => fun _ _ _ _ _ r h => by simp [pathLoop] at h
  | k + 1 => by
    have ih0 := pathLoop_mono k
    intro y0 y1 y2 y3 y4
    unfold pathLoop
    exact LeO.ite (LeO.refl _) (LeO.ite (LeO.refl _) (ih0 _ _ _ _ _))
theorem why_Path.mono : ∀ a0 a1 a2 a3 a4 k, LeO (why_Path.f k a0 a1 a2 a3 a4) (why_Path.f (k + 1) a0 a1 a2 a3 a4) := by
  intro a0 a1 a2 a3 a4 k
  unfold why_Path.f
  exact LeO.ite (LeO.bind (LeO.refl _) fun _ => LeO.ite (LeO.refl _) (LeO.bind (why_far.mono _ _ _ _ k) fun _ => LeO.ite (LeO.refl _) (LeO.bind (pathLoop_mono _ _ _ _ _ _) fun _ => LeO.refl _))) (LeO.refl _)
theorem drawn_trans {w w1 w2 : World} (h : Drawn0 w w1) (k : Drawn0 w1 w2) : Drawn0 w w2 := by
  obtain ⟨n, rfl⟩ := k.out
  exact h.step n
set_option maxHeartbeats 4000000 in
set_option maxRecDepth 100000 in
theorem path_closure (w : World) (bm n Bs Ba : Nat) (F : Int → Option Int) (x a : Int) (hm : MI w bm n F) (hs : w.cell? ⟨Bs, 0, none⟩ = some (.map (some bm))) (ha : w.cell? ⟨Ba, 0, none⟩ = some (.int .i64 a)) (okx : okI x = true) (oka : okI a = true) :
    Calls Try.prog 73 #[.int .i64 x, .pointer (some ⟨Bs, 0, none⟩), .pointer (some ⟨Ba, 0, none⟩)] w fun e w' => e = .returned (.bool (pathP F a x)) ∧ Drawn0 w w' := by
  have l1 := mi_look hm x okx
  have l2 := mi_look1 hm a oka
  unfold pathP
  clear hm okx oka
  cases h : (F x).isSome with
  | false =>
    rw [h] at l1
    clear h
    go_enter Try.func73, Try.ntmps73
    go_wp2
    go_ret
    exact ⟨rfl, by first | exact Drawn0.refl _ | exact (Drawn0.refl _).step _⟩
  | true =>
    rw [h] at l1
    clear h
    generalize (F x).getD 0 = p at *
    generalize (F a).getD 0 = q at *
    go_enter Try.func73, Try.ntmps73
    go_wp2
    go_ret
    exact ⟨by simp, by first | exact Drawn0.refl _ | exact (Drawn0.refl _).step _⟩
set_option maxHeartbeats 4000000 in
set_option maxRecDepth 100000 in
theorem path_index (w : World) (bm n Bs Ba : Nat) (F : Int → Option Int) (a : Int) (A : Option Addr) (c : Nat) (xs : List Int) (m : Nat) (hmm : xs.length = m) (hm : MI w bm n F) (hs : w.cell? ⟨Bs, 0, none⟩ = some (.map (some bm))) (ha : w.cell? ⟨Ba, 0, none⟩ = some (.int .i64 a)) (oka : okI a = true) (hok : ∀ y ∈ xs, okI y = true) (hC : Kd.C (Kd.int .i64) w A m xs) :
    Calls Try.prog 72 #[.slice A m c, .func (.func 73) #[] #[.pointer (some ⟨Bs, 0, none⟩), .pointer (some ⟨Ba, 0, none⟩)]] w fun e w' => e = .returned (.int .i64 (idxFrom (pathP F a) xs 0)) ∧ Drawn0 w w' := by
  have hu24 := Try.underlying24
  obtain ⟨R, hR⟩ : ∃ R, idxFrom (pathP F a) xs 0 = R := ⟨_, rfl⟩
  rw [hR]
  have HR0 := Lib.hid (show idxFrom (pathP F a) (xs.drop 0) 0 = R from hR)
  have HCL := Aside0.mk (fun (W : World) (hd : Drawn0 w W) (x : Int) (okx : okI x = true) => path_closure W bm n Bs Ba F x a (mi_below hm hd.below) (pw_cell_below hd.below hs) (pw_cell_below hd.below ha) okx oka)
  have HOK := Lib.hid hok
  have HM := Lib.hid hmm
  have HC := Aside0.mk hC
  have hmax := Kd.C_max hC
  clear hR hm hs ha oka hok hmm hC
  go_enter Try.func72, Try.ntmps72
  go_wp2
  go_loopg [5, 8] m (fun gg _ s8 wr => ∃ j : Nat, s8 = .int .i64 j ∧ j ≤ m ∧ m - j ≤ gg ∧ Hid (idxFrom (pathP F a) (xs.drop j) j = R) ∧ Aside0 (Drawn0 w wr))
  case atStart => exact ⟨0, rfl, by omega, by omega, HR0, ⟨Drawn0.refl _⟩⟩
  case round =>
    clear HR0
    obtain ⟨j, rfl, hj, hgj, HR, HD⟩ := hrel
    by_cases hlt : j < m
    · have hltz : (j : Int) < (m : Int) := by omega
      obtain ⟨ad, ead, hx0⟩ := Kd.at_int (Kd.C_below HC.out HD.out.below) (j : Int) (by omega) (by first | omega | (rw [HM.out]; omega))
      rw [Int.toNat_natCast] at hx0
      have hdr := drop_int xs j (by rw [HM.out]; exact hlt)
      have hq := HR.out
      rw [hdr, idxFrom] at hq
      have hyok : okI (rd xs (j : Int)) = true := HOK.out _ (by
        show xs.getD (j : Int).toNat 0 ∈ xs
        rw [Int.toNat_natCast, List.getD_eq_getElem?_getD, List.getElem?_eq_getElem (by rw [HM.out]; exact hlt)]
        exact List.getElem_mem _)
      have HQ := Lib.hid hq
      clear hq hdr HR
      generalize rd xs (j : Int) = x at hx0 HQ hyok
      cases ead
      have HX := Aside0.mk (HCL.out wr HD.out x hyok)
      clear hyok
      cases hp : pathP F a x with
      | true =>
        rw [hp] at HX
        have hr : (j : Int) = R := by have := HQ.out; rw [if_pos hp] at this; exact this
        subst hr
        clear HQ hp
        go_wp2_with fail
        refine HX.out.mono ?_
        rintro e w4 ⟨rfl, hd4⟩
        have HD4 := Aside0.mk (drawn_trans HD.out hd4)
        clear hd4
        go_wp2
        go_ret
        exact ⟨rfl, HD4.out⟩
      | false =>
        rw [hp] at HX
        have HQ2 := Lib.hid (show idxFrom (pathP F a) (xs.drop (j + 1)) (j + 1) = R by have := HQ.out; rw [if_neg (by rw [hp]; exact Bool.false_ne_true)] at this; exact this)
        clear HQ hp
        go_wp2_with fail
        refine HX.out.mono ?_
        rintro e w4 ⟨rfl, hd4⟩
        have HD4 := Aside0.mk (drawn_trans HD.out hd4)
        clear hd4
        go_wp2
        go_roundg (m - (j + 1))
        case measure => omega
        case rel => exact ⟨j + 1, by go_num, by omega, Nat.le_refl _, HQ2, HD4⟩
    · have hltz : ¬ (j : Int) < (m : Int) := by omega
      obtain rfl : j = m := by omega
      have hr := HR.out
      rw [List.drop_of_length_le (by rw [HM.out]; exact Nat.le_refl _)] at hr
      replace hr : (-1 : Int) = R := hr
      subst hr
      go_wp2
      go_ret
      exact ⟨rfl, HD.out⟩
/-- The rounds' state: the graph's box, the box of where one is, the map's box, the map, the row. -/
structure PathSt (w : World) (s0 s1 s2 : Value) (Ba Bs bm n : Nat) (F : Int → Option Int) (a : Int) (v : Value) (l : List Int) (wr : World) : Prop where
  below : Below w.heap.size w wr
  g : wr.heap[w.heap.size]? = some (.cells #[s0, s1, s2] 51 (0, 0))
  a : wr.heap[Ba]? = some (.cells #[.int .i64 a] 3 (0, 0))
  s : wr.heap[Bs]? = some (.cells #[.map (some bm)] 101 (0, 0))
  ba : w.heap.size < Ba
  map : MI wr bm n F
  row : Kd.R (Kd.int .i64) 3 wr w.heap.size (fun k => k ≠ Ba) v l
theorem ps_below {w : World} {s0 s1 s2 : Value} {Ba Bs bm n : Nat} {F : Int → Option Int} {a : Int} {v : Value} {l : List Int} {wr w1 : World} (h : PathSt w s0 s1 s2 Ba Bs bm n F a v l wr) (hb : Below wr.heap.size wr w1) : PathSt w s0 s1 s2 Ba Bs bm n F a v l w1 :=
  ⟨below_step h.below hb, (hb.block _ (blk_lt h.g)).trans h.g, (hb.block _ (blk_lt h.a)).trans h.a, (hb.block _ (blk_lt h.s)).trans h.s, h.ba, mi_below h.map hb, Kd.R_below h.row hb⟩
theorem set_far (w : World) (g : Nat) (v : Value) (k : Nat) (hk : k ≠ g) : (w.setCell ⟨g, 0, none⟩ v).heap[k]? = w.heap[k]? := setCells_far [v] 0 k hk
theorem ps_set {w : World} {s0 s1 s2 : Value} {Ba Bs bm n : Nat} {F : Int → Option Int} {a : Int} {v : Value} {l : List Int} {wr : World} (h : PathSt w s0 s1 s2 Ba Bs bm n F a v l wr) (a' : Int) : PathSt w s0 s1 s2 Ba Bs bm n F a' v l (wr.setCell ⟨Ba, 0, none⟩ (.int .i64 a')) := by
  have hba := h.ba
  have hbs : Bs ≠ Ba := by
    rintro rfl
    have := h.s.symm.trans h.a
    cases this
  have hbm : bm ≠ Ba := by
    rintro rfl
    obtain ⟨es, c, hm⟩ := ownM h.map
    have := hm.symm.trans h.a
    cases this
  have hg : wr.grownBy (wr.setCell ⟨Ba, 0, none⟩ (.int .i64 a')) (some Ba) := by
    obtain ⟨s1, s2, s3, s4⟩ := setCells_same Ba [.int .i64 a'] 0 wr
    exact ⟨s1, s2, s3, Nat.le_of_eq s4.symm, fun k _ hne => set_far wr Ba _ k (fun e => hne (by rw [e]))⟩
  exact ⟨pw_below_grown h.below (some Ba) h.below.size hg (by intro k hk; cases hk; omega), (set_far wr Ba _ _ (by omega)).trans h.g, blk_put h.a 0 _ rfl, (set_far wr Ba _ _ hbs).trans h.s, hba, mi_kept h.map hg (by simpa using hbm), Kd.R_step h.row (fun k hk _ => set_far wr Ba _ k hk)⟩
set_option maxHeartbeats 8000000 in
set_option maxRecDepth 100000 in
theorem why_Path.calls (k : Nat) (A0_0 : Option Addr) (c0_0 : Nat) (l0_0 : List Int) (A0_1 : Option Addr) (c0_1 : Nat) (l0_1 : List S34) (A0_2 : Option Addr) (c0_2 : Nat) (l0_2 : List Int) (a1 a2 : Int) (r1 : List Int) (r2 : Bool) (w : World)
    (hr0_0 : Kd.C (Kd.int .i64) w A0_0 l0_0.length l0_0) (hc0_0 : l0_0.length ≤ c0_0) (hr0_1 : Kd.C k34 w A0_1 l0_1.length l0_1) (hc0_1 : l0_1.length ≤ c0_1) (hr0_2 : Kd.C (Kd.int .i64) w A0_2 l0_2.length l0_2) (hc0_2 : l0_2.length ≤ c0_2) (h : why_Path.f k l0_0 l0_1 l0_2 a1 a2 = some (r1, r2)) :
    Calls Try.prog 40 #[.agg #[.slice A0_0 l0_0.length c0_0, .slice A0_1 l0_1.length c0_1, .slice A0_2 l0_2.length c0_2], .int .i64 a1, .int .i64 a2] w fun e w' => ∃ v0_ : Value, e = .returned (.tuple #[v0_, .bool r2]) ∧ Kd.R (Kd.int .i64) 3 w' w.heap.size (fun _ => True) v0_ r1 ∧ Below w.heap.size w w' := by
  have hu51 := Try.underlying51
  have hu24 := Try.underlying24
  unfold why_Path.f at h
  by_cases hok : l0_0.all okI = true ∧ okL l0_1 = true ∧ l0_1.length ≤ 1000000
  · rw [if_pos hok] at h
    obtain ⟨hokE, hokL, hLl⟩ := hok
    obtain ⟨⟨ta, tb, ti⟩, ht, h⟩ := Option.bind_eq_some_iff.mp h
    dsimp only at h
    have hrange : ti = true → okI ta = true ∧ okI tb = true := by
      intro hti
      subst hti
      unfold why_edges.f at ht
      split at ht
      · cases ht
      split at ht
      · cases ht
      split at ht
      · split at ht
        · split at ht
          · split at ht
            · simp only [Option.some.injEq, Prod.mk.injEq, and_true] at ht
              obtain ⟨rfl, rfl⟩ := ht
              exact ⟨rd_all l0_0 hokE a1 (by assumption) (by assumption), rd_all l0_0 hokE a2 (by assumption) (by assumption)⟩
            · cases ht
          · cases ht
        · cases ht
      · cases ht
    have HED := Aside0.mk (fun (W : World) (hb : Below w.heap.size w W) => why_edges.calls A0_0 c0_0 l0_0 A0_1 c0_1 l0_1 A0_2 c0_2 l0_2 a1 a2 ta tb ti W (Kd.C_below hr0_0 hb) hc0_0 (Kd.C_below hr0_1 hb) hc0_1 (Kd.C_below hr0_2 hb) hc0_2 ht)
    have HNR := Aside0.mk (fun (W : World) (hb : Below w.heap.size w W) (x : Int) => near_any A0_0 c0_0 l0_0 A0_1 c0_1 l0_1 A0_2 c0_2 l0_2 x W (Kd.C_below hr0_0 hb) hc0_0 (Kd.C_below hr0_1 hb) hc0_1 (Kd.C_below hr0_2 hb) hc0_2 hLl)
    have HFA := Aside0.mk (fun (W : World) (hb : Below w.heap.size w W) (F : Int → Option Int) (hf : why_far.f k l0_0 l0_1 l0_2 tb = some F) => why_far.calls k A0_0 c0_0 l0_0 A0_1 c0_1 l0_1 A0_2 c0_2 l0_2 tb F W (Kd.C_below hr0_0 hb) hc0_0 (Kd.C_below hr0_1 hb) hc0_1 (Kd.C_below hr0_2 hb) hc0_2 hf)
    have HLK := Lib.hid hokL
    have HRG := Lib.hid hrange
    clear hokE hokL hrange hr0_0 hr0_1 hr0_2 hc0_0 hc0_1 hc0_2 ht
    generalize Value.slice A0_0 l0_0.length c0_0 = s0 at *
    generalize Value.slice A0_1 l0_1.length c0_1 = s1 at *
    generalize Value.slice A0_2 l0_2.length c0_2 = s2 at *
    have HB1 := Aside0.mk (below_alloc (Below.refl w.heap.size w) (.cells #[s0, s1, s2] 51))
    have hblk : (w.alloc (.cells #[s0, s1, s2] 51)).heap[w.heap.size]? = some (.cells #[s0, s1, s2] 51 (0, 0)) := blk_new w _
    have HED1 := Aside0.mk (HED.out _ HB1.out)
    cases ti with
    | false =>
      rw [if_pos rfl] at h
      obtain ⟨rfl, rfl⟩ : [] = r1 ∧ false = r2 := by simpa using h
      clear h HED HNR HFA HRG HLK
      go_enter Try.func40, Try.ntmps40
      go_wp2_with fail
      refine HED1.out.mono ?_
      rintro e w2 ⟨rfl, hb⟩
      have HB2 := Aside0.mk (below_step HB1.out hb)
      clear hb HED1 hblk
      go_wp2
      go_ret2
      exact ⟨_, rfl, Kd.R_nil _ _ _ _ _, below_alloc HB2.out _⟩
    | true =>
      rw [if_neg (by simp)] at h
      obtain ⟨F, hF, h⟩ := Option.bind_eq_some_iff.mp h
      obtain ⟨hoa, hob⟩ := HRG.out rfl
      have HH := Lib.hid h
      have HFF := Lib.hid hF
      clear h hF HRG HED
      go_enter Try.func40, Try.ntmps40
      go_wp2_with fail
      refine HED1.out.mono ?_
      rintro e w2 ⟨rfl, hb⟩
      have HB2 := Aside0.mk (below_step HB1.out hb)
      have hblk2 := (hb.block _ (blk_lt hblk)).trans hblk
      clear hb HED1 hblk HB1
      have HB3 := Aside0.mk (below_alloc HB2.out (.cells #[.int .i64 ta] 3))
      have hblk3 : (w2.alloc (.cells #[.int .i64 ta] 3)).heap[w.heap.size]? = some (.cells #[s0, s1, s2] 51 (0, 0)) := blk_alloc hblk2 _
      have hat3 : (w2.alloc (.cells #[.int .i64 ta] 3)).heap[w2.heap.size]? = some (.cells #[.int .i64 ta] 3 (0, 0)) := blk_new w2 _
      have hlt2 : w.heap.size < w2.heap.size := blk_lt hblk2
      have g0 : (w2.alloc (.cells #[.int .i64 ta] 3)).cell? ⟨w.heap.size, 0, none⟩ = some s0 := (blk_cell hblk3 0).trans rfl
      have g1 : (w2.alloc (.cells #[.int .i64 ta] 3)).cell? ⟨w.heap.size, 1, none⟩ = some s1 := (blk_cell hblk3 1).trans rfl
      have g2 : (w2.alloc (.cells #[.int .i64 ta] 3)).cell? ⟨w.heap.size, 2, none⟩ = some s2 := (blk_cell hblk3 2).trans rfl
      have HFX := Aside0.mk (HFA.out _ HB3.out F HFF.out)
      go_wp2_with fail
      refine HFX.out.mono ?_
      rintro e w4 ⟨bm, n, rfl, hbm, hMI, hb4⟩
      have hg4 := (hb4.block _ (blk_lt hblk3)).trans hblk3
      have ha4 := (hb4.block _ (blk_lt hat3)).trans hat3
      have HB4 := Aside0.mk (below_alloc (below_step HB3.out hb4) (.cells #[.map (some bm)] 101))
      have hg5 : (w4.alloc (.cells #[.map (some bm)] 101)).heap[w.heap.size]? = some (.cells #[s0, s1, s2] 51 (0, 0)) := blk_alloc hg4 _
      have ha5 : (w4.alloc (.cells #[.map (some bm)] 101)).heap[w2.heap.size]? = some (.cells #[.int .i64 ta] 3 (0, 0)) := blk_alloc ha4 _
      have hs5 : (w4.alloc (.cells #[.map (some bm)] 101)).heap[w4.heap.size]? = some (.cells #[.map (some bm)] 101 (0, 0)) := blk_new w4 _
      have hM5 := mi_below hMI (below_alloc (Below.refl w4.heap.size w4) (.cells #[.map (some bm)] 101))
      clear hb4 hMI hg4 ha4 HFX g0 g1 g2 hblk2 hblk3 hat3 HB2 HB3
      have qa : (w4.alloc (.cells #[.map (some bm)] 101)).cell? ⟨w2.heap.size, 0, none⟩ = some (.int .i64 ta) := mb_cell1 ha5
      have qs : (w4.alloc (.cells #[.map (some bm)] 101)).cell? ⟨w4.heap.size, 0, none⟩ = some (.map (some bm)) := mb_cell1 hs5
      have hlk := mi_look hM5 ta hoa
      obtain ⟨Bs, hBs⟩ : ∃ Bs, w4.heap.size = Bs := ⟨_, rfl⟩
      obtain ⟨Ba, hBa⟩ : ∃ Ba, w2.heap.size = Ba := ⟨_, rfl⟩
      obtain ⟨w5, hw5⟩ : ∃ w5, w4.alloc (.cells #[.map (some bm)] 101) = w5 := ⟨_, rfl⟩
      rw [hBs] at hs5 qs
      rw [hBa] at ha5 qa hlt2
      rw [hw5] at hg5 ha5 hs5 hM5 qa qs hlk HB4
      have HG5 := Lib.hid hg5
      have HA5 := Lib.hid ha5
      have HS5 := Lib.hid hs5
      have HM5 := Aside0.mk hM5
      clear hg5 ha5 hs5 hM5
      cases hf : (F ta).isSome with
      | false =>
        rw [hf] at hlk
        have h := HH.out
        rw [if_pos hf] at h
        obtain ⟨rfl, rfl⟩ : [] = r1 ∧ false = r2 := by simpa using h
        clear h HH hf
        go_wp2
        go_ret2
        exact ⟨_, rfl, Kd.R_nil _ _ _ _ _, HB4.out⟩
      | true =>
        rw [hf] at hlk
        have h := HH.out
        rw [if_neg (by rw [hf]; simp)] at h
        obtain ⟨res, hp, h⟩ := Option.bind_eq_some_iff.mp h
        obtain ⟨rfl, rfl⟩ : res = r1 ∧ true = r2 := by simpa using h
        have HP0 := Aside0.mk hp
        have hlt5 : Ba < w5.heap.size := blk_lt HA5.out
        have HPS0 := Aside0.mk (show PathSt w s0 s1 s2 Ba Bs bm n F ta (.slice (some ⟨w5.heap.size, 0, none⟩) 1 1) [ta] (w5.alloc (.cells #[.int .i64 ta] 3)) from
          ⟨below_alloc HB4.out _, blk_alloc HG5.out _, blk_alloc HA5.out _, blk_alloc HS5.out _, hlt2, mi_below HM5.out (below_alloc (Below.refl _ _) _), Kd.R_of_own (enc := Value.int .i64) (h1 := fun _ => rfl) (ok := fun k => k ≠ Ba) (own_lit w5 w.heap.size 3 .i64 [ta] HB4.out.size (by simp)) (fun k hk => by
            simp only [Value.ownBlock, Option.some.injEq] at hk
            omega)⟩)
        clear h HH hf hp HG5 HA5 HS5 HM5 HB4
        go_wp2
        clear qa qs hlk
        go_loopg [12, 13] k (fun kq v12 _ wr => ∃ (a : Int) (l : List Int), Aside0 (pathLoop kq l0_1 F a tb l = some res) ∧ okI a = true ∧ Aside0 (PathSt w s0 s1 s2 Ba Bs bm n F a v12 l wr))
        case atStart => exact ⟨ta, [ta], HP0, hoa, HPS0⟩
        case round =>
          clear HP0 HPS0
          obtain ⟨a, l, HA, hoka, HS⟩ := hrel
          cases gk with
          | zero => exact absurd HA.out (by simp [pathLoop])
          | succ k1 =>
          have H := HA.out
          rw [pathLoop] at H
          have q0 : wr.cell? ⟨Ba, 0, none⟩ = some (.int .i64 a) := mb_cell1 HS.out.a
          by_cases hab : a = tb
          · subst hab
            rw [if_pos rfl] at H
            obtain rfl := Option.some.inj H
            have bab : (a == a) = true := beq_self_eq_true a
            clear H HA
            go_wp2
            go_ret2
            exact ⟨_, rfl, Kd.R_mono HS.out.row (fun _ _ => trivial), HS.out.below⟩
          · rw [if_neg hab] at H
            by_cases hg : 1000000000 < l.length ∨ idxFrom (pathP F a) (nearL l0_1 a) 0 < 0
            · rw [if_pos hg] at H
              cases H
            rw [if_neg hg] at H
            have hll : l.length ≤ 1000000000 := by omega
            obtain ⟨ys, hys⟩ : ∃ ys, nearL l0_1 a = ys := ⟨_, rfl⟩
            obtain ⟨ix, hix⟩ : ∃ ix, idxFrom (pathP F a) ys 0 = ix := ⟨_, rfl⟩
            rw [hys, hix] at H hg
            have hx0 : 0 ≤ ix := by omega
            obtain ⟨nY, hnY⟩ : ∃ nY, ys.length = nY := ⟨_, rfl⟩
            have hx1 : ix < (nY : Int) := by
              rcases idxFrom_in (pathP F a) ys 0 with h | ⟨i, h1, h2⟩
              · omega
              · omega
            have hyk : ∀ y ∈ ys, okI y = true := fun y hy => (near_ok l0_1 HLK.out a y (by rw [hys]; exact hy)).1
            have hyx : okI (rd ys ix) = true := hyk _ (by
              show ys.getD ix.toNat 0 ∈ ys
              rw [List.getD_eq_getElem?_getD, List.getElem?_eq_getElem (by omega)]
              exact List.getElem_mem _)
            obtain ⟨y, hy⟩ : ∃ y, rd ys ix = y := ⟨_, rfl⟩
            rw [hy] at H hyx
            have bab : (a == tb) = false := beq_eq_false_iff_ne.2 hab
            have HX := Aside0.mk H
            have HN1 := Aside0.mk (HNR.out wr HS.out.below a)
            rw [hys] at HN1
            have HIX := Lib.hid hix
            have HYS := Lib.hid hys
            have HNY := Lib.hid hnY
            have HYK := Lib.hid hyk
            have HYY := Lib.hid hy
            have e0 : wr.cell? ⟨w.heap.size, 0, none⟩ = some s0 := (blk_cell HS.out.g 0).trans rfl
            have e1 : wr.cell? ⟨w.heap.size, 1, none⟩ = some s1 := (blk_cell HS.out.g 1).trans rfl
            have e2 : wr.cell? ⟨w.heap.size, 2, none⟩ = some s2 := (blk_cell HS.out.g 2).trans rfl
            clear H hg hab hix hys hnY hyk hy HA
            go_wp2_with fail
            refine HN1.out.mono ?_
            rintro e w6 ⟨vN, rfl, hoN, hb6⟩
            obtain ⟨AN, cN, rfl⟩ := Kd.R_slice hoN
            have hS6 := ps_below HS.out hb6
            rw [HNY.out] at hoN ⊢
            have HI := Aside0.mk (path_index w6 bm n Bs Ba F a AN cN ys nY HNY.out hS6.map (mb_cell1 hS6.s) (mb_cell1 hS6.a) hoka HYK.out (by have := (Kd.R_reads' hoN).2.2; rw [HNY.out] at this; exact this))
            rw [HIX.out] at HI
            have HS6 := Aside0.mk hS6
            clear hoN hb6 hS6 HN1 HS e0 e1 e2 q0
            go_wp2_with fail
            refine HI.out.mono ?_
            rintro e w7 ⟨rfl, hd7⟩
            have hS7 := ps_below HS6.out hd7.below
            have q0 : w7.cell? ⟨Ba, 0, none⟩ = some (.int .i64 a) := mb_cell1 hS7.a
            have e0 : w7.cell? ⟨w.heap.size, 0, none⟩ = some s0 := (blk_cell hS7.g 0).trans rfl
            have e1 : w7.cell? ⟨w.heap.size, 1, none⟩ = some s1 := (blk_cell hS7.g 1).trans rfl
            have e2 : w7.cell? ⟨w.heap.size, 2, none⟩ = some s2 := (blk_cell hS7.g 2).trans rfl
            have HS7 := Aside0.mk hS7
            have HN2 := Aside0.mk (HNR.out w7 hS7.below a)
            rw [HYS.out] at HN2
            clear hd7 hS7 HS6 HI
            go_wp2_with fail
            refine HN2.out.mono ?_
            rintro e w8 ⟨vN2, rfl, hoN, hb8⟩
            obtain ⟨AN2, cN2, rfl⟩ := Kd.R_slice hoN
            have hS8 := ps_below HS7.out hb8
            rw [HNY.out] at hoN ⊢
            obtain ⟨adN, eN, hy0⟩ := Kd.at_int (Kd.R_reads' hoN).2.2 ix hx0 (by rw [HNY.out]; exact hx1)
            rw [HYY.out] at hy0
            cases eN
            have q8 : w8.cell? ⟨Ba, 0, none⟩ = some (.int .i64 a) := mb_cell1 hS8.a
            have f8 := blk_frozen hS8.a 0
            have HS9 := Aside0.mk (ps_set hS8 y)
            have q9 : (w8.setCell ⟨Ba, 0, none⟩ (.int .i64 y)).cell? ⟨Ba, 0, none⟩ = some (.int .i64 y) := mb_cell1 HS9.out.a
            clear hoN hb8 hS8 HS7 HN2 e0 e1 e2 q0
            go_wp2_with (at_builtin; refine Kd.R_append (Kd.int .i64) (w0 := w) w.heap.size rfl _ _ 24 3 (.int .i64 0) 8 rfl Try.underlying24 far_info rfl (by decide) (by decide) u12 l y [.int .i64 y] (fun k => k ≠ Ba) (fun _ => False) rfl (by show Value.slice (some ⟨w8.heap.size, 0, none⟩) 1 1 = _; simp) (where_tok _ _ _ _) (fun _ h_ => h_.elim) ?hfr HS9.out.row HS9.out.below HS9.out.below.size ?hl ?hk)
            case hfr => exact fun k hk => by have := blk_lt HS9.out.a; omega
            case hl => omega
            case hk =>
              intro v1 w9 ho hb hgr hat
              have hnb : some Ba ≠ u12.ownBlock := fun he => HS9.out.row.1 _ he.symm rfl
              have hh := HS9.out
              have HS10 := Aside0.mk (show PathSt w s0 s1 s2 Ba Bs bm n F y v1 (l ++ [y]) w9 from
                ⟨hb, (hgr.block _ (blk_lt hh.g) (fun he => by
                  obtain ⟨_, _, hown, _⟩ := hh.row
                  obtain ⟨cells, hc⟩ := own_typed hown _ he.symm
                  rw [hh.g] at hc
                  cases hc)).trans hh.g, (hgr.block _ (blk_lt hh.a) hnb).trans hh.a, (hgr.block _ (blk_lt hh.s) (fun he => by
                  obtain ⟨_, _, hown, _⟩ := hh.row
                  obtain ⟨cells, hc⟩ := own_typed hown _ he.symm
                  rw [hh.s] at hc
                  cases hc)).trans hh.s, hh.ba, mi_kept hh.map hgr (fun he => by
                  obtain ⟨_, _, hown, _⟩ := hh.row
                  obtain ⟨cells, hc⟩ := own_typed hown _ he.symm
                  obtain ⟨es, cc, hmp⟩ := ownM hh.map
                  rw [hmp] at hc
                  cases hc), ho⟩)
              clear ho hb hgr hat hh hnb HS9
              go_wp2
              go_roundg k1
              case measure => omega
              case rel => exact ⟨y, l ++ [y], HX, hyx, HS10⟩
  · rw [if_neg hok] at h
    cases h



end Go.Proofs.Ythgjieigpfcekaa.QW
