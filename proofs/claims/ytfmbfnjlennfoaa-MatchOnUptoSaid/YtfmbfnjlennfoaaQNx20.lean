/- Package env's functions, walked: Find, Keys and what they call. -/
import Derived.Test.YtfmbfnjlennfoaaQNx0
namespace Go.Proofs.Ytfmbfnjlennfoaa.QN
open Go.RowKit Go.Proofs.YtfmbfnjlennfoaaW.PrintWords Go.Proofs.YtfmbfnjlennfoaaW.PrintLast Go.Proofs.YtfmbfnjlennfoaaW.PrintMore
attribute [local go_sem] max2_int min2_int max_two min_two max_three min_three max_four min_four   -- for this text's walks alone
set_option linter.unusedVariables false
set_option linter.unusedSimpArgs false
/-! #### environments: bindings, the youngest first -/
inductive En where
  | nil : En
  | node (up : En) (sp : Int) (nm : ByteArray) (dl via : Int) (pa pm : En) : En
/-- An environment lies at p. -/
def EnAt (w : World) : En → Option Addr → Prop
  | .nil, p => p = none
  | .node up sp nm dl via pa pm, p => ∃ (g : Nat) (pu pp pq : Option Addr), p = some ⟨g, 0, none⟩ ∧ w.heap[g]? = some (.cells #[.pointer pu, .int .i64 sp, .string nm, .int .i64 dl, .int .i64 via, .pointer pp, .pointer pq] 70 (0, 0)) ∧ EnAt w up pu ∧ EnAt w pa pp ∧ EnAt w pm pq
theorem en_below {w w' : World} (hb : Below w.heap.size w w') : ∀ {E : En} {p : Option Addr}, EnAt w E p → EnAt w' E p
  | .nil, _, h => h
  | .node up sp nm dl via pa pm, _, h => by
    obtain ⟨g, pu, pp, pq, rfl, hc, h1, h2, h3⟩ := h
    exact ⟨g, pu, pp, pq, rfl, (hb.block g (blk_lt hc)).trans hc, en_below hb h1, en_below hb h2, en_below hb h3⟩
set_option maxHeartbeats 2000000 in
set_option maxRecDepth 100000 in
theorem env_with (pu : Option Addr) (sp : Int) (nm : ByteArray) (dl via : Int) (pp pq : Option Addr) (w : World) :
    Calls Try.prog 19 #[.pointer pu, .agg #[.int .i64 sp, .string nm], .agg #[.int .i64 dl, .int .i64 via, .pointer pp, .pointer pq]] w fun e w' => ∃ g : Nat, e = .returned (.pointer (some ⟨g, 0, none⟩)) ∧ w.heap.size ≤ g ∧ w'.heap[g]? = some (.cells #[.pointer pu, .int .i64 sp, .string nm, .int .i64 dl, .int .i64 via, .pointer pp, .pointer pq] 70 (0, 0)) ∧ Below w.heap.size w w' := by
  have hu27 := Try.underlying27
  have hu51 := Try.underlying51
  have hu70 := Try.underlying70
  go_enter Try.func19, Try.ntmps19
  go_wp2
  go_ret
  refine ⟨_, rfl, ?_, ?_, by repeat (first | exact Below.refl _ _ | apply below_alloc)⟩
  · omega
  · have h := blk_new ((w.alloc (.cells #[.int .i64 sp, .string nm] 27)).alloc (.cells #[.int .i64 dl, .int .i64 via, .pointer pp, .pointer pq] 51)) (.cells #[.pointer pu, .int .i64 sp, .string nm, .int .i64 dl, .int .i64 via, .pointer pp, .pointer pq] 70)
    simpa only [World.size_alloc] using h
theorem env_node {w w' : World} {g : Nat} {pu pp pq : Option Addr} {U P Q : En} {sp : Int} {nm : ByteArray} {dl via : Int} (hc : w'.heap[g]? = some (.cells #[.pointer pu, .int .i64 sp, .string nm, .int .i64 dl, .int .i64 via, .pointer pp, .pointer pq] 70 (0, 0)))
    (hb : Below w.heap.size w w') (h1 : EnAt w U pu) (h2 : EnAt w P pp) (h3 : EnAt w Q pq) : EnAt w' (.node U sp nm dl via P Q) (some ⟨g, 0, none⟩) :=
  ⟨g, pu, pp, pq, rfl, hc, en_below hb h1, en_below hb h2, en_below hb h3⟩
/-! #### rows of environments: slices.Reverse -/
def kptr : Kd (Option Addr) := Kd.scalar Value.pointer (fun _ => rfl)
theorem kp_tok (w : World) (base : Nat) (ok : Nat → Prop) (p : Option Addr) : kptr.M w base ok p [.pointer p] := rfl
theorem kp_block {w : World} {base g n cap : Nat} {ok : Nat → Prop} {xs : List (Option Addr)} (h : Kd.R kptr 30 w base ok (.slice (some ⟨g, 0, none⟩) n cap) xs) :
    n = xs.length ∧ n ≤ cap ∧ cap ≤ maxLen ∧ base ≤ g ∧ ∃ cur : Array Value, w.heap[g]? = some (.cells cur 30 (0, 0)) ∧ cur.size = cap := by
  obtain ⟨_, inner, ⟨_, h2⟩, _⟩ := h
  rcases h2 with ⟨hv, _⟩ | ⟨g', cap', cur, hv, hb, hh, hnc, hcm, hcs, htk⟩
  · cases hv
  · obtain ⟨rfl, hn, rfl⟩ : g = g' ∧ n = xs.length ∧ cap = cap' := by
      injection hv with ha hn hc
      injection ha with ha
      injection ha with hg'
      exact ⟨hg', hn, hc⟩
    exact ⟨hn, by omega, hcm, hb, cur, hh, by rw [hcs]; exact Nat.mul_one _⟩
theorem kp_make {w : World} {base g cap : Nat} {cur : Array Value} {xs : List (Option Addr)} (hh : w.heap[g]? = some (.cells cur 30 (0, 0))) (hb : base ≤ g) (hn : xs.length ≤ cap) (hcm : cap ≤ maxLen) (hcs : cur.size = cap)
    (hc : ∀ (j : Nat) (x : Option Addr), xs[j]? = some x → w.cell? ⟨g, j, none⟩ = some (.pointer x)) :
    Kd.R kptr 30 w base (fun _ => True) (.slice (some ⟨g, 0, none⟩) xs.length cap) xs := by
  have hcl : cur.toList.length = cap := by rw [Array.length_toList, hcs]
  have hl : (cur.toList.take (xs.length * 1)).length = xs.length * 1 := by rw [List.length_take, hcl]; omega
  refine ⟨fun _ _ => trivial, cur.toList.take (xs.length * 1), ⟨hl, .inr ⟨g, cap, cur, rfl, hb, hh, hn, hcm, by rw [hcs]; exact (Nat.mul_one _).symm, rfl⟩⟩, hl, fun j x hj => ?_⟩
  have h0 := hc j x hj
  have hjl : j < xs.length := (List.getElem?_eq_some_iff.1 hj).1
  unfold World.cell? at h0
  rw [hh] at h0
  replace h0 : cur[j]? = some (.pointer x) := h0
  have e : ((cur.toList.take (xs.length * 1)).drop (j * 1)).take 1 = [.pointer x] := by
    apply List.ext_getElem?
    intro i
    rw [List.getElem?_take, List.getElem?_drop, List.getElem?_take]
    match i with
    | 0 => rw [if_pos (by omega), if_pos (by omega), Nat.add_zero, Nat.mul_one, Array.getElem?_toList, h0]; rfl
    | i + 1 => rw [if_neg (by omega)]; rfl
  show kptr.M w base _ x (((cur.toList.take (xs.length * 1)).drop (j * 1)).take 1)
  rw [e]
  exact rfl
theorem kp_rd (xs : List (Option Addr)) (j : Nat) (h : j < xs.length) : rdOf none xs (j : Int) = xs[j] := by
  unfold rdOf
  rw [Int.toNat_natCast, List.getD_eq_getElem?_getD, List.getElem?_eq_getElem h]
  rfl
theorem kp_holds {w : World} {base g n cap : Nat} {ok : Nat → Prop} {xs : List (Option Addr)} (h : Kd.R kptr 30 w base ok (.slice (some ⟨g, 0, none⟩) n cap) xs) : Sort.Holds Value.pointer w g 0 xs.toArray := by
  obtain ⟨hn, _, _, _, cur, hh, _⟩ := kp_block h
  intro j hj
  rw [List.size_toArray] at hj
  refine ⟨?_, blk_frozen hh _⟩
  obtain ⟨hc, _⟩ := Kd.R_celln none h (j : Int) (by omega) (by omega)
  rw [Int.toNat_natCast] at hc
  rw [Nat.zero_add, hc, kp_rd xs j hj, getElem!_pos _ _ (by simpa using hj)]
  rfl
set_option maxHeartbeats 4000000 in
set_option maxRecDepth 1000000 in
theorem rev_arr (blk off cap : Nat) (d : Array (Option Addr)) (w : World) (hH : Sort.Holds Value.pointer w blk off d) (hsz : d.size ≤ 9223372036854775807) :
    Calls Try.prog 44 #[.slice (some ⟨blk, off, none⟩) d.size cap] w fun e w' => e = .returned (.tuple #[]) ∧ ∃ n, w' = Sort.putRow Value.pointer (Sort.ahead w n) blk off d.reverse := by
  have hu67 := Try.underlying67
  have hu30 := Try.underlying30
  go_enter Try.func44, Try.ntmps44
  go_wp2
  go_loopg [2, 3] d.size (fun k s2 s3 wr => ∃ (i jn : Nat) (jz : Int) (dk : Array (Option Addr)) (n : Nat), s2 = .int .i64 i ∧ s3 = .int .i64 jz ∧ ((i : Int) < jz → jz = jn ∧ jn < d.size) ∧ (¬ (i : Int) < jz → ¬ i < jn) ∧ jn - i ≤ k ∧
    dk.size = d.size ∧ wr = Sort.putRow Value.pointer (Sort.ahead w n) blk off dk ∧ Sort.reverseLoop i jn dk = Sort.reverseLoop 0 (d.size - 1) d)
  case atStart => exact ⟨0, d.size - 1, (d.size : Int) - 1, d, 0, rfl, rfl, fun h => ⟨by omega, by omega⟩, fun h => by omega, by omega, rfl, (Sort.putRow_self Value.pointer w blk off d hH).symm, rfl⟩
  case round =>
    obtain ⟨i, jn, jz, dk, n, rfl, rfl, h1, h2, hk, hds, hwr, heq⟩ := hrel
    by_cases hlt : (i : Int) < jz
    · obtain ⟨rfl, hjn⟩ := h1 hlt
      have hij : i < jn := by omega
      have hid : i < d.size := by omega
      have hid2 : i < dk.size := by omega
      have hjd2 : jn < dk.size := by omega
      have hHk : Sort.Holds Value.pointer wr blk off dk := by rw [hwr]; exact Sort.holds_putRow Value.pointer _ blk off d dk (Sort.holds_ahead Value.pointer w n blk off d hH) hds
      obtain ⟨ci, fi⟩ := hHk i (by omega)
      obtain ⟨cj, fj⟩ := hHk jn (by omega)
      have A := Aside0.mk hwr
      clear hwr hHk hH h1 h2
      go_wp2_with fail
      go_region
      go_wp2
      go_roundg (jn - 1 - (i + 1))
      case measure => omega
      case rel =>
        rw [Sort.reverseLoop, if_pos hij] at heq
        exact ⟨i + 1, jn - 1, (jn : Int) - 1, Sort.swp dk i jn, n + 1, by simp, rfl, fun h => ⟨by omega, by omega⟩, fun h => by omega, Nat.le_refl _, by rw [Sort.size_swp]; exact hds,
          swap_world Value.pointer (by omega) (by omega) A.out (by first | rfl | simp [getElem!_pos, show jn < dk.size by omega]) (by first | rfl | simp [getElem!_pos, show i < dk.size by omega]), heq⟩
    · have hnot := h2 hlt
      go_wp2
      go_end0
      refine ⟨rfl, n, ?_⟩
      rw [Sort.reverseLoop, if_neg hnot] at heq
      rw [← Lib.reverseLoop_reverse, ← heq]
theorem kp_flat {base : Nat} {ok ok' : Nat → Prop} {w : World} {v : Value} {xs : List (Option Addr)} (h : kptr.R 30 w base ok v xs) (hok : ∀ k, v.ownBlock = some k → ok k → ok' k) : kptr.R 30 w base ok' v xs := by
  obtain ⟨h0, inner, hown, hr⟩ := h
  exact ⟨fun k hk => hok k hk (h0 k hk), inner, hown, hr.imp_ (fun _ _ hm => hm)⟩
set_option maxHeartbeats 2000000 in
set_option maxRecDepth 100000 in
theorem rev_nil (A : Option Addr) (cap : Nat) (w : World) : Calls Try.prog 44 #[.slice A 0 cap] w fun e w' => e = .returned (.tuple #[]) ∧ w' = w := by
  go_enter Try.func44, Try.ntmps44
  go_wp2
  go_loopg [2, 3] 0 (fun _ s2 s3 wr => s2 = .int .i64 0 ∧ s3 = .int .i64 (-1) ∧ wr = w)
  case atStart => exact ⟨rfl, rfl, rfl⟩
  case round =>
    obtain ⟨rfl, rfl, rfl⟩ := hrel
    go_wp2
    go_end0
    exact ⟨rfl, rfl⟩
theorem kp_rev (v : Value) (xs : List (Option Addr)) (base : Nat) (ok : Nat → Prop) (w : World) (HO : kptr.R 30 w base ok v xs) (hsz : xs.length ≤ 100000000) :
    Calls Try.prog 44 #[v] w fun e w' => e = .returned (.tuple #[]) ∧ kptr.R 30 w' base (fun _ => True) v xs.reverse ∧ w.grownBy w' v.ownBlock := by
  by_cases hem : xs.length = 0
  · obtain ⟨p, cap, rfl⟩ := Kd.R_slice HO
    have hnil : xs = [] := List.length_eq_zero_iff.1 hem
    subst hnil
    refine (rev_nil p cap w).mono ?_
    rintro e w' ⟨rfl, rfl⟩
    exact ⟨rfl, kp_flat HO (fun _ _ _ => trivial), ⟨rfl, rfl, rfl, Nat.le_refl _, fun _ _ _ => rfl⟩⟩
  · obtain ⟨g, cap, rfl, hbg, -, -⟩ := Kd.R_form HO (by omega)
    obtain ⟨hn, hnc, hcm, hb, cur, hh, hcs⟩ := kp_block HO
    have hlt := blk_lt hh
    have hH := kp_holds HO
    refine (rev_arr g 0 cap xs.toArray w hH (by simp; omega)).mono ?_
    rintro e w' ⟨rfl, m, rfl⟩
    obtain ⟨ys, hys⟩ : ∃ ys, xs.reverse = ys := ⟨_, rfl⟩
    have hl : ys.length = xs.length := by rw [← hys, List.length_reverse]
    rw [List.reverse_toArray, hys]
    have hsz2 : (Sort.putRow Value.pointer (Sort.ahead w m) g 0 ys.toArray).heap.size = w.heap.size := by
      rw [Sort.size_putRow]
      rfl
    have hheap : (Sort.putRow Value.pointer (Sort.ahead w m) g 0 ys.toArray).heap[g]? = some (.cells (Sort.putCells Value.pointer 0 ys.toArray cur) 30 (0, 0)) := by
      unfold Sort.putRow Sort.mapBlock Sort.ahead
      dsimp only
      rw [Array.getElem?_modify, if_pos rfl, hh]
      rfl
    refine ⟨rfl, ?_, ⟨rfl, rfl, rfl, by rw [hsz2]; exact Nat.le_refl _, fun k hk hne => ?_⟩⟩
    · have hl2 : xs.length = ys.length := hl.symm
      rw [hl2]
      refine kp_make hheap hb (by omega) hcm (by simp [Sort.putCells, hcs]) fun j x hj => ?_
      have hjl : j < ys.length := (List.getElem?_eq_some_iff.1 hj).1
      have hH' : Sort.Holds Value.pointer (Sort.ahead w m) g 0 xs.toArray := hH
      have := Sort.cell?_putRow Value.pointer (Sort.ahead w m) g 0 xs.toArray ys.toArray hH' (by simp [hl]) j (by simpa [hl] using hjl)
      rw [Nat.zero_add] at this
      rw [this, getElem!_pos _ _ (by simpa using hjl)]
      rw [List.getElem?_eq_getElem hjl] at hj
      have hx : ys[j] = x := Option.some.inj hj
      rw [← hx]
      rfl
    · unfold Sort.putRow Sort.mapBlock Sort.ahead
      dsimp only
      rw [Array.getElem?_modify, if_neg (fun e => hne (by rw [e]; rfl))]
/-! #### keys, and a map from them to whether they were seen -/
instance ba_dec : DecidableEq ByteArray := fun a b => if h : a.data = b.data then isTrue (by cases a; cases b; simp_all) else isFalse (by rintro rfl; exact h rfl)
abbrev EKey := Int × ByteArray
def keyV (k : EKey) : Value := .agg #[.int .i64 k.1, .string k.2]
def okK (k : EKey) : Prop := (Lit.int .i64 k.1).wf = true ∧ k.2.size ≤ maxLen
def keyL (k : EKey) : Lit := .string (keyBytes [.int .i64 k.1, .string k.2.data.toList])
theorem ke_laid : laidOutB Try.prog = true := by kernel_rfl
theorem ke_row : (27 : TypeId) < Try.prog.types.size := of_decide_eq_true (by kernel_rfl)
theorem ke_wide : (match Try.prog.underlying 27 with | some (.array _ _) | some (.struct _) => true | _ => false) = true := by rw [Try.underlying27]
theorem ke_law : WideMaps.KeyLaw Try.prog 27 := deep_law_laid ke_laid (m := 2) (by omega) ke_row (by kernel_rfl) ke_wide
theorem ke_keyed : Maps.Keyed Try.prog 27 := Maps.Keyed.of_law ke_law
theorem ke_cells : Try.prog.cellsOf 27 = 2 := by kernel_rfl
theorem ke_c3 : Try.prog.cellsOf 3 = 1 := by kernel_rfl
theorem ke_c9 : Try.prog.cellsOf 9 = 1 := by kernel_rfl
theorem ke_kt : Try.prog.keyType 27 = true := by kernel_rfl
theorem ke_keyOf {k : EKey} (h : okK k) : keyOf Try.prog 27 (keyV k) = some (keyL k) := by
  obtain ⟨m, hm⟩ := Nat.exists_eq_succ_of_ne_zero (Nat.ne_of_gt (Nat.lt_of_le_of_lt (Nat.zero_le _) ke_row))
  unfold keyOf
  simp only [Try.underlying27]
  rw [if_pos (by simp [ke_kt, keyV, Value.formed, Try.underlying27, ke_cells]), hm]
  unfold Program.keyLits
  simp only [Try.underlying27, Value.cells, keyV]
  rw [if_pos (by rw [ke_cells]; exact ⟨rfl, by simp⟩)]
  simp [ke_c3, ke_c9, Program.keyLits, Try.underlying3, Try.underlying9, h.1, h.2, keyL]
theorem keyV_inj {a b : EKey} (h : keyV a = keyV b) : a = b := by
  obtain ⟨a1, a2⟩ := a
  obtain ⟨b1, b2⟩ := b
  simp only [keyV, Value.agg.injEq, Array.mk.injEq, List.cons.injEq, Value.int.injEq, Value.string.injEq, true_and, and_true] at h
  rw [h.1, h.2]
theorem keyL_inj {a b : EKey} (ha : okK a) (hb : okK b) (h : keyL a = keyL b) : a = b := by
  have h1 := ke_keyOf ha
  have h2 := ke_keyOf hb
  rw [← h] at h2
  exact keyV_inj (ke_law.inj h1 h2)
def memK (k : EKey) (S : List EKey) : Bool := S.any fun x => decide (x = k)
theorem memK_cons (j k : EKey) (S : List EKey) : memK j (k :: S) = (decide (k = j) || memK j S) := rfl
open Go.Maps in
/-- A map[Key]bool of the call's own, block b: the keys of S are true in it. -/
def KB (w : World) (b n : Nat) (S : List EKey) : Prop := ∃ D : DataW Unit, w.ownsMap Try.prog 27 (plainElem Try.prog 4) b n D ∧ IsMap D ∧ ∀ k : EKey, okK k → D.atKey (keyL k) (.lit (.bool false)) = .lit (.bool (memK k S))
theorem kb_zero (w : World) : (zeroValue 4).run Try.prog w = .ok (.bool false) w := by kernel_rfl
theorem kb_made (w : World) : KB (w.alloc (.map #[] 0)) w.heap.size 0 [] :=
  ⟨.map [], World.ownsMap_made w _ _ _, Maps.isMap_empty, fun k _ => rfl⟩
theorem kb_lt {w : World} {b n : Nat} {S : List EKey} (h : KB w b n S) : b < w.heap.size := by
  obtain ⟨D, h1, _⟩ := h
  exact h1.lt
theorem kb_kept {w w' : World} {b n : Nat} {S : List EKey} {row : Option Nat} (h : KB w b n S) (hg : w.grownBy w' row) (hne : some b ≠ row) : KB w' b n S := by
  obtain ⟨D, h1, h2, h3⟩ := h
  exact ⟨D, h1.kept hg hne, h2, h3⟩
theorem kb_below {w w' : World} {b n : Nat} {S : List EKey} (h : KB w b n S) (hb : Below w.heap.size w w') : KB w' b n S := kb_kept h (grown_of_below hb none) (by simp)
theorem kb_notCells {w : World} {b n : Nat} {S : List EKey} (h : KB w b n S) {cs : Array Value} {t : Nat} {z : Nat × Nat} : w.heap[b]? ≠ some (.cells cs t z) := by
  obtain ⟨D, ⟨es, clock, hm, _⟩, _⟩ := h
  rw [hm]
  intro e
  cases e
set_option maxRecDepth 100000 in
theorem kb_bool_inv {v : Value} {z : DataW Unit × List MemPlace} (h : plainElem Try.prog 4 v = some z) : ∃ x, v = .bool x ∧ z = (.lit (.bool x), []) := by
  unfold plainElem at h
  rw [Try.underlying4] at h
  cases v <;> simp at h
  obtain rfl := h
  exact ⟨_, rfl, rfl⟩
set_option maxRecDepth 100000 in
theorem kb_look {w : World} {b n : Nat} {S : List EKey} (h : KB w b n S) (k : EKey) (hk : okK k) : (Instr.lookup 75 (.map (some b)) (keyV k) false).run Try.prog w = .ok (.bool (memK k S)) w := by
  obtain ⟨D, h1, _, h3⟩ := h
  obtain ⟨v, ps, hrun, hv⟩ := h1.lookup ke_keyed Try.underlying75 (kb_zero w) (plainElem_bool Try.underlying4 false) (ke_keyOf hk)
  obtain ⟨x, rfl, hx⟩ := kb_bool_inv hv
  rw [h3 k hk] at hx
  simp only [Prod.mk.injEq] at hx
  have h4 : memK k S = x := by
    have := hx.1
    injection this with this
    injection this
  rw [h4]
  exact hrun
set_option maxRecDepth 100000 in
theorem kb_put {w : World} {b n : Nat} {S : List EKey} (h : KB w b n S) (hn : n < maxLen) (k : EKey) (hk : okK k) :
    ∃ w', (Instr.mapUpdate 75 (.map (some b)) (keyV k) (.bool true)).run Try.prog w = .ok () w' ∧ KB w' b (n + 1) (k :: S) ∧ w.grownBy w' (some b) := by
  obtain ⟨D, h1, h2, h3⟩ := h
  obtain ⟨w', hrun, ho, hg⟩ := h1.update ke_keyed Try.underlying75 hn (ke_keyOf hk) (plainElem_bool Try.underlying4 true)
  refine ⟨w', hrun, ⟨_, ho, h2.put _ _, fun j hj => ?_⟩, hg⟩
  by_cases e : j = k
  · subst e
    rw [Maps.atKey_put_same h2 (by first | exact trivial | simp [WideAt.IsKeyLit, keyL] | decide)]
    rw [memK_cons, decide_eq_true rfl, Bool.true_or]
  · rw [Maps.atKey_put_other (fun he => e (keyL_inj hj hk he)), h3 j hj]
    rw [memK_cons, decide_eq_false (fun h => e h.symm), Bool.false_or]
/-- What a store into the map makes of the world. -/
noncomputable def kPut (w : World) (b : Nat) (k : EKey) : World := match (Instr.mapUpdate 75 (.map (some b)) (keyV k) (.bool true)).run Try.prog w with
  | .ok _ w' => w'
  | _ => w
theorem kb_run {w : World} {b n : Nat} {S : List EKey} (h : KB w b n S) (hn : n < maxLen) (k : EKey) (hk : okK k) :
    (Instr.mapUpdate 75 (.map (some b)) (keyV k) (.bool true)).run Try.prog w = .ok () (kPut w b k) ∧ KB (kPut w b k) b (n + 1) (k :: S) ∧ w.grownBy (kPut w b k) (some b) := by
  obtain ⟨w', hrun, h1, h2⟩ := kb_put h hn k hk
  have e : kPut w b k = w' := by unfold kPut; rw [hrun]
  rw [e]
  exact ⟨hrun, h1, h2⟩
/-! #### what is visible -/
def En.ok : En → Prop
  | .nil => True
  | .node up sp nm _ _ pa pm => okK (sp, nm) ∧ up.ok ∧ pa.ok ∧ pm.ok
def En.key : En → EKey
  | .nil => (0, ⟨#[]⟩)
  | .node _ sp nm _ _ _ _ => (sp, nm)
def En.len : En → Nat
  | .nil => 0
  | .node up _ _ _ _ _ _ => up.len + 1
/-- The bindings to which keys are bound that were not seen, the youngest first. -/
def visR : En → List EKey → List En
  | .nil, _ => []
  | .node up sp nm dl via pa pm, S => (if memK (sp, nm) S = true then [] else [.node up sp nm dl via pa pm]) ++ visR up ((sp, nm) :: S)
def visE (E : En) : List En := (visR E []).reverse
theorem visR_len : ∀ (E : En) (S : List EKey), (visR E S).length ≤ E.len
  | .nil, _ => Nat.le_refl _
  | .node up sp nm dl via pa pm, S => by
    have h := visR_len up ((sp, nm) :: S)
    unfold visR En.len
    rw [List.length_append]
    split <;> simp <;> omega
theorem visR_node (up : En) (sp : Int) (nm : ByteArray) (dl via : Int) (pa pm : En) (S : List EKey) : visR (.node up sp nm dl via pa pm) S = (if memK (sp, nm) S = true then [] else [.node up sp nm dl via pa pm]) ++ visR up ((sp, nm) :: S) := rfl
/-- Blocks that hold bindings stay. -/
def EKeep (w w' : World) : Prop := w.heap.size ≤ w'.heap.size ∧ ∀ (k : Nat) (cs : Array Value), w.heap[k]? = some (Obj.cells cs 70 (0, 0)) → w'.heap[k]? = some (Obj.cells cs 70 (0, 0))
theorem ek_refl (w : World) : EKeep w w := ⟨Nat.le_refl _, fun _ _ h => h⟩
theorem ek_trans {a b c : World} (h : EKeep a b) (k : EKeep b c) : EKeep a c := ⟨Nat.le_trans h.1 k.1, fun i cs hi => k.2 i cs (h.2 i cs hi)⟩
theorem ek_below {w w' : World} (hb : Below w.heap.size w w') : EKeep w w' := ⟨hb.size, fun k _ h => (hb.block k (blk_lt h)).trans h⟩
theorem ek_grown {w w' : World} {row : Option Nat} (hg : w.grownBy w' row) (hr : ∀ (k : Nat) (cs : Array Value), w.heap[k]? = some (Obj.cells cs 70 (0, 0)) → some k ≠ row) : EKeep w w' := ⟨hg.size, fun k cs h => (hg.block k (blk_lt h) (hr k cs h)).trans h⟩
theorem ek_row {α : Type} {d : Kd α} {e base : Nat} {ok : Nat → Prop} {w w' : World} {v : Value} {xs : List α} (hR : d.R e w base ok v xs) (he : e ≠ 70) (hg : w.grownBy w' v.ownBlock) : EKeep w w' :=
  ek_grown hg fun k cs hk e1 => by
    obtain ⟨_, inner, hown, _⟩ := hR
    obtain ⟨cells, hc⟩ := own_typed hown k e1.symm
    rw [hk] at hc
    injection hc with hc
    injection hc with _ hc _
    exact he hc.symm
theorem ek_map {w w' : World} {b n : Nat} {S : List EKey} (hm : KB w b n S) (hg : w.grownBy w' (some b)) : EKeep w w' :=
  ek_grown hg fun k cs hk e1 => by
    injection e1 with e1
    subst e1
    exact kb_notCells hm hk
theorem ek_set {w : World} {g t j : Nat} {cs : Array Value} {v : Value} (hg : w.heap[g]? = some (.cells cs t (0, 0))) (ht : t ≠ 70) : EKeep w (w.setCell ⟨g, j, none⟩ v) :=
  ⟨by simp, fun k c h => blk_far h (by
    rintro rfl
    rw [hg] at h
    injection h with h
    injection h with _ h _
    exact ht h) v⟩
theorem en_keep {w w' : World} (hk : EKeep w w') : ∀ {E : En} {p : Option Addr}, EnAt w E p → EnAt w' E p
  | .nil, _, h => h
  | .node up sp nm dl via pa pm, _, h => by
    obtain ⟨g, pu, pp, pq, rfl, hc, h1, h2, h3⟩ := h
    exact ⟨g, pu, pp, pq, rfl, hk.2 g _ hc, en_keep hk h1, en_keep hk h2, en_keep hk h3⟩
def EnRow (w : World) : List En → List (Option Addr) → Prop
  | [], [] => True
  | N :: r, p :: q => EnAt w N p ∧ EnRow w r q
  | _, _ => False
theorem er_keep {w w' : World} (hk : EKeep w w') : ∀ {l : List En} {ps : List (Option Addr)}, EnRow w l ps → EnRow w' l ps
  | [], [], h => h
  | _ :: _, _ :: _, h => ⟨en_keep hk h.1, er_keep hk h.2⟩
  | [], _ :: _, h => h.elim
  | _ :: _, [], h => h.elim
theorem er_len {w : World} : ∀ {l : List En} {ps : List (Option Addr)}, EnRow w l ps → l.length = ps.length
  | [], [], _ => rfl
  | _ :: _, _ :: _, h => by rw [List.length_cons, List.length_cons, er_len h.2]
  | [], _ :: _, h => h.elim
  | _ :: _, [], h => h.elim
theorem er_append {w : World} : ∀ {l m : List En} {ps qs : List (Option Addr)}, EnRow w l ps → EnRow w m qs → EnRow w (l ++ m) (ps ++ qs)
  | [], _, [], _, _, k => k
  | _ :: _, _, _ :: _, _, h, k => ⟨h.1, er_append h.2 k⟩
  | [], _, _ :: _, _, h, _ => h.elim
  | _ :: _, _, [], _, h, _ => h.elim
theorem er_reverse {w : World} : ∀ {l : List En} {ps : List (Option Addr)}, EnRow w l ps → EnRow w l.reverse ps.reverse
  | [], [], h => h
  | _ :: _, _ :: _, h => by
    rw [List.reverse_cons, List.reverse_cons]
    exact er_append (er_reverse h.2) ⟨h.1, trivial⟩
  | [], _ :: _, h => h.elim
  | _ :: _, [], h => h.elim
theorem er_get {w : World} : ∀ {l : List En} {ps : List (Option Addr)} (_ : EnRow w l ps) (j : Nat) (h : j < l.length) (h2 : j < ps.length), EnAt w l[j] ps[j]
  | [], [], _, _, h, _ => absurd h (by simp)
  | _ :: _, _ :: _, k, 0, _, _ => k.1
  | _ :: _, _ :: _, k, j + 1, h, h2 => er_get k.2 j (by simpa using h) (by simpa using h2)
  | [], _ :: _, k, _, _, _ => k.elim
  | _ :: _, [], k, _, _, _ => k.elim
set_option maxHeartbeats 2000000 in
set_option maxRecDepth 100000 in
theorem vis_is {w : World} {g : Nat} {pu pp pq : Option Addr} {sp : Int} {nm : ByteArray} {dl via : Int} (hc : w.heap[g]? = some (.cells #[.pointer pu, .int .i64 sp, .string nm, .int .i64 dl, .int .i64 via, .pointer pp, .pointer pq] 70 (0, 0)))
    (hk : okK (sp, nm)) {bs bm n : Nat} {S : List EKey} (hs : w.heap[bs]? = some (.cells #[.map (some bm)] 75 (0, 0))) (hm : KB w bm n S) (hn : n < maxLen) :
    Calls Try.prog 33 #[.pointer (some ⟨g, 0, none⟩), .pointer (some ⟨bs, 0, none⟩)] w fun e w' => e = .returned (.bool (!memK (sp, nm) S)) ∧ KB w' bm (n + 1) ((sp, nm) :: S) ∧ w.grownBy w' (some bm) := by
  have hu27 := Try.underlying27
  have hu70 := Try.underlying70
  have c1 : w.cell? ⟨g, 1, none⟩ = some (.int .i64 sp) := (blk_cell hc 1).trans rfl
  have c2 : w.cell? ⟨g, 2, none⟩ = some (.string nm) := (blk_cell hc 2).trans rfl
  have c3 : w.cell? ⟨bs, 0, none⟩ = some (.map (some bm)) := (blk_cell hs 0).trans rfl
  have hl : ∀ m, (Instr.lookup 75 (.map (some bm)) (.agg #[.int .i64 sp, .string nm]) false).run Try.prog (w.drewN m) = .ok (.bool (memK (sp, nm) S)) (w.drewN m) := fun m => kb_look (kb_below hm (pw_below_drewN (Below.refl _ _) m)) (sp, nm) hk
  have hU := fun m : Nat => kb_run (kb_below hm (pw_below_drewN (Below.refl _ _) m)) hn (sp, nm) hk
  have hu : ∀ m, (Instr.mapUpdate 75 (.map (some bm)) (.agg #[.int .i64 sp, .string nm]) (.bool true)).run Try.prog (w.drewN m) = .ok () (kPut (w.drewN m) bm (sp, nm)) := fun m => (hU m).1
  have HU := Aside0.mk (fun m => (hU m).2)
  clear hU hm hs hc hk hn
  go_enter Try.func33, Try.ntmps33
  go_wp2
  go_quiet (fail)
  go_wp2
  go_region
  go_wp2
  go_ret
  obtain ⟨h1, h2⟩ := HU.out _
  exact ⟨rfl, h1, ⟨h2.os, h2.tape, h2.output, h2.size, h2.block⟩⟩
theorem ptr_info : (Try.prog.info? 30).map (fun i => (i.zero, i.size, i.bytes)) = some (some (.pointer none), 1, 8) := by kernel_rfl
/-- The state of the rounds: the map and its box; the row so far; the bindings that are still to come. -/
structure SomeSt (w : World) (bs bm : Nat) (N : En) (p : Option Addr) (v : Value) (ps : List (Option Addr)) (S : List EKey) (Es : List En) (wr : World) : Prop where
  at_ : EnAt wr N p
  row : kptr.R 30 wr w.heap.size (fun _ => True) v ps
  ens : EnRow wr Es ps
  box : wr.heap[bs]? = some (.cells #[.map (some bm)] 75 (0, 0))
  map : KB wr bm S.length S
  grown : w.grownBy wr (some bm)
  bsl : bs < w.heap.size
  bml : bm < w.heap.size
theorem row_ge {α : Type} {d : Kd α} {e base : Nat} {ok : Nat → Prop} {w : World} {v : Value} {xs : List α} (h : d.R e w base ok v xs) {k : Nat} (hk : k < base) : some k ≠ v.ownBlock := fun e1 => by
  obtain ⟨_, inner, hown, _⟩ := h
  have := own_base hown k e1.symm
  omega
/-- One binding has been asked for. -/
theorem ss_ask {w : World} {bs bm g : Nat} {up pa pm : En} {sp : Int} {nm : ByteArray} {dl via : Int} {pu pp pq : Option Addr} {v : Value} {ps : List (Option Addr)} {S : List EKey} {Es : List En} {wr w1 : World}
    (h : SomeSt w bs bm (.node up sp nm dl via pa pm) (some ⟨g, 0, none⟩) v ps S Es wr) (hc : wr.heap[g]? = some (.cells #[.pointer pu, .int .i64 sp, .string nm, .int .i64 dl, .int .i64 via, .pointer pp, .pointer pq] 70 (0, 0))) (hu : EnAt wr up pu)
    (hm : KB w1 bm (S.length + 1) ((sp, nm) :: S)) (hg : wr.grownBy w1 (some bm)) :
    SomeSt w bs bm up pu v ps ((sp, nm) :: S) Es w1 ∧ EnAt w1 (.node up sp nm dl via pa pm) (some ⟨g, 0, none⟩) ∧ w1.heap[g]? = some (.cells #[.pointer pu, .int .i64 sp, .string nm, .int .i64 dl, .int .i64 via, .pointer pp, .pointer pq] 70 (0, 0)) := by
  have ek := ek_map h.map hg
  have hbml := h.bml
  refine ⟨⟨en_keep ek hu, Kd.R_grown (Kd.R_mono (Kd.R_bound h.row) (fun k hk => (⟨trivial, hk.2.1⟩ : True ∧ w.heap.size ≤ k))) hg (fun k hk e => by injection e with e; have := hk.2; omega) |> fun h => Kd.R_mono h (fun _ _ => trivial), er_keep ek h.ens, ?_, by simpa using hm, ?_, h.bsl, h.bml⟩, en_keep ek h.at_, ek.2 _ _ hc⟩
  · refine (hg.block bs (blk_lt h.box) (fun e => ?_)).trans h.box
    injection e with e
    have hb := h.box
    rw [e] at hb
    exact kb_notCells h.map hb
  · exact ⟨hg.os.trans h.grown.os, hg.tape.trans h.grown.tape, hg.output.trans h.grown.output, Nat.le_trans h.grown.size hg.size, fun k hk hne => (hg.block k (Nat.lt_of_lt_of_le hk h.grown.size) hne).trans (h.grown.block k hk hne)⟩
/-- It is put into the row. -/
theorem ss_push {w : World} {bs bm : Nat} {N M : En} {p q : Option Addr} {v v1 : Value} {ps : List (Option Addr)} {S : List EKey} {Es : List En} {wr w1 : World}
    (h : SomeSt w bs bm N p v ps S Es wr) (hM : EnAt wr M q) (hr : kptr.R 30 w1 w.heap.size (fun _ => True) v1 (ps ++ [q])) (hb : Below w.heap.size wr w1) (hg : wr.grownBy w1 v.ownBlock) :
    SomeSt w bs bm N p v1 (ps ++ [q]) S (Es ++ [M]) w1 := by
  have ek := ek_row h.row (by decide) hg
  exact ⟨en_keep ek h.at_, hr, er_append (er_keep ek h.ens) ⟨en_keep ek hM, trivial⟩, (hb.block bs h.bsl).trans h.box, kb_kept h.map hg (row_ge h.row h.bml), ⟨hb.os.trans h.grown.os, hb.tape.trans h.grown.tape, hb.output.trans h.grown.output, Nat.le_trans h.grown.size hb.size, fun k hk hne => (hb.block k hk).trans (h.grown.block k hk hne)⟩, h.bsl, h.bml⟩
set_option maxHeartbeats 8000000 in
set_option maxRecDepth 100000 in
theorem some_vis {w : World} {E : En} {p : Option Addr} (hE : EnAt w E p) (hok : E.ok) (hlen : E.len ≤ 4000000) {bs bm : Nat} (hs : w.heap[bs]? = some (.cells #[.map (some bm)] 75 (0, 0))) (hm : KB w bm 0 []) :
    Calls Try.prog 32 #[.pointer p, .pointer none, .func (.func 33) #[] #[.pointer (some ⟨bs, 0, none⟩)]] w fun e w' => ∃ (v : Value) (ps : List (Option Addr)), e = .returned v ∧ kptr.R 30 w' w.heap.size (fun _ => True) v ps ∧ EnRow w' (visE E) ps ∧ w.grownBy w' (some bm) := by
  have hu67 := Try.underlying67
  have hu30 := Try.underlying30
  have hu70 := Try.underlying70
  have HS0 := Aside0.mk (show SomeSt w bs bm E p (.slice none 0 0) [] [] [] w from ⟨hE, Kd.R_nil _ _ _ _ _, trivial, hs, hm, ⟨rfl, rfl, rfl, Nat.le_refl _, fun _ _ _ => rfl⟩, blk_lt hs, kb_lt hm⟩)
  have HL := Lib.hid hlen
  have HOK := Lib.hid hok
  clear hE hok hs hm hlen
  go_enter Try.func32, Try.ntmps32
  go_wp2
  go_loopg [7, 8] E.len (fun gg s7 s8 wr => ∃ (N : En) (q : Option Addr) (v : Value) (ps : List (Option Addr)) (S : List EKey) (Es : List En), s8 = .pointer q ∧ v = s7 ∧ N.len = gg ∧ Hid (N.ok ∧ Es ++ visR N S = visR E [] ∧ S.length + N.len = E.len) ∧ Aside0 (SomeSt w bs bm N q v ps S Es wr))
  case atStart => exact ⟨E, p, _, [], [], [], rfl, rfl, rfl, Lib.hid ⟨HOK.out, rfl, by simp⟩, HS0⟩
  case round =>
    clear HS0
    obtain ⟨N, q, v, ps, S, Es, rfl, rfl, hgg, HX, HS⟩ := hrel
    cases N with
    | nil =>
      obtain rfl : q = none := HS.out.at_
      have HP := Aside0.mk (kp_rev v ps w.heap.size _ wr HS.out.row (by
        have h1 := er_len HS.out.ens
        have h2 := HX.out.2.1
        have h3 := visR_len E []
        have h4 := HL.out
        rw [← h2, List.length_append, h1] at h3
        omega))
      go_wp2_with (go_at_call 44; with_reducible refine HP.out.mono ?_; rintro e w9 ⟨rfl, hR9, hg9⟩; have HR9 := Aside0.mk hR9; have HG9 := Aside0.mk hg9; clear hR9 hg9)
      go_ret
      have ek := ek_row HS.out.row (by decide) HG9.out
      refine ⟨_, _, rfl, HR9.out, ?_, ?_⟩
      · have h2 := HX.out.2.1
        have h3 : visR .nil S = [] := rfl
        rw [h3, List.append_nil] at h2
        unfold visE
        rw [← h2]
        exact er_reverse (er_keep ek HS.out.ens)
      · have hg := HS.out.grown
        exact ⟨HG9.out.os.trans hg.os, HG9.out.tape.trans hg.tape, HG9.out.output.trans hg.output, Nat.le_trans hg.size HG9.out.size, fun k hk hne => (HG9.out.block k (Nat.lt_of_lt_of_le hk hg.size) (row_ge HS.out.row hk)).trans (hg.block k hk hne)⟩
    | node up sp nm dl via pa pm =>
      obtain ⟨g, pu, pp, pq, rfl, hc, h1, h2, h3⟩ := HS.out.at_
      have hX := HX.out
      have hlenS : S.length < 4000001 := by
        have := hX.2.2
        have h4 := HL.out
        omega
      have hpl : ps.length ≤ 4000000 := by
        have h1 := er_len HS.out.ens
        have h2 := hX.2.1
        have h3 := visR_len E []
        have h4 := HL.out
        rw [← h2, List.length_append, h1] at h3
        omega
      have HA := Aside0.mk (vis_is (pu := pu) (pp := pp) (pq := pq) (dl := dl) (via := via) hc hX.1.1 HS.out.box HS.out.map (by unfold maxLen; omega))
      have HST := Aside0.mk (fun (w1 : World) (hm : KB w1 bm (S.length + 1) ((sp, nm) :: S)) (hg : wr.grownBy w1 (some bm)) => ss_ask HS.out hc h1 hm hg)
      have HM := Aside0.mk (show EnAt wr (.node up sp nm dl via pa pm) (some ⟨g, 0, none⟩) from HS.out.at_)
      obtain ⟨b, hb⟩ : ∃ b, memK (sp, nm) S = b := ⟨_, rfl⟩
      have HX1 := Lib.hid (show up.ok ∧ (Es ++ (if b = true then [] else [.node up sp nm dl via pa pm])) ++ visR up ((sp, nm) :: S) = visR E [] ∧ ((sp, nm) :: S).length + up.len = E.len from ⟨hX.1.2.1, by rw [← hX.2.1, visR_node, hb, List.append_assoc], by have h4 : S.length + (up.len + 1) = E.len := hX.2.2; rw [List.length_cons]; omega⟩)
      have hgl : up.len < gk := by rw [← hgg]; exact Nat.lt_succ_self _
      rw [hb] at HA
      clear hX HX HS hc h1 h2 h3 hgg hb
      cases b with
      | true =>
        simp only [Bool.not_true] at HA
        go_wp2_with (go_at_call 33; with_reducible refine HA.out.mono ?_; rintro e w1 ⟨rfl, hm1, hg1⟩; obtain ⟨hs1, -, hc1⟩ := HST.out w1 hm1 hg1; have HS1 := Aside0.mk hs1; have k0 : w1.cell? ⟨g, 0, none⟩ = some (.pointer pu) := (blk_cell hc1 0).trans rfl; clear hs1 hc1 hm1 hg1)
        go_roundg up.len
        case measure => omega
        case rel => exact ⟨up, pu, v, ps, _, _, rfl, rfl, rfl, HX1, by simpa using HS1⟩
      | false =>
        simp only [Bool.not_false] at HA
        go_wp2_with (first | (go_at_call 33; with_reducible refine HA.out.mono ?_; rintro e w1 ⟨rfl, hm1, hg1⟩; obtain ⟨hs1, hm1_, hc1⟩ := HST.out w1 hm1 hg1; have HS1 := Aside0.mk hs1; have HM1 := Aside0.mk hm1_; have HC1 := Aside0.mk hc1; clear hs1 hc1 hm1 hg1 hm1_) | (at_builtin; refine Kd.R_append kptr (w0 := w1) w.heap.size rfl _ _ 67 30 (.pointer none) 8 rfl Try.underlying67 ptr_info rfl (by decide) (by decide) v ps (some ⟨g, 0, none⟩) [.pointer (some ⟨g, 0, none⟩)] (fun _ => True) (fun _ => False) rfl rfl (kp_tok _ _ _ _) (fun _ h_ => h_.elim) (fun _ _ => trivial) HS1.out.row (Below.refl _ _) HS1.out.grown.size ?hl ?hk))
        case hl => omega
        case hk =>
          intro v1 w3 ho hb hgr hat
          have hs3 := ss_push HS1.out HM1.out ho hb hgr
          have HS3 := Aside0.mk hs3
          have hc3 := (ek_row HS1.out.row (by decide) hgr).2 _ _ HC1.out
          have k0 : w3.cell? ⟨g, 0, none⟩ = some (.pointer pu) := (blk_cell hc3 0).trans rfl
          clear ho hb hgr hat hs3 hc3
          go_wp2
          go_roundg up.len
          case measure => omega
          case rel => exact ⟨up, pu, v1, _, _, _, rfl, rfl, rfl, HX1, HS3⟩
set_option maxHeartbeats 4000000 in
set_option maxRecDepth 100000 in
theorem visible_calls {w : World} {E : En} {p : Option Addr} (hE : EnAt w E p) (hok : E.ok) (hlen : E.len ≤ 4000000) :
    Calls Try.prog 28 #[.pointer p] w fun e w' => ∃ (v : Value) (ps : List (Option Addr)), e = .returned v ∧ kptr.R 30 w' w.heap.size (fun _ => True) v ps ∧ EnRow w' (visE E) ps ∧ Below w.heap.size w w' := by
  have hu67 := Try.underlying67
  have hu30 := Try.underlying30
  have hu75 := Try.underlying75
  have hmm := @run_makeMap Try.prog
  have hb1 : Below w.heap.size w (w.alloc (.map #[] 0)) := below_alloc (Below.refl _ _) _
  have hb2 : Below w.heap.size w ((w.alloc (.map #[] 0)).alloc (.cells #[.map (some w.heap.size)] 75)) := below_alloc hb1 _
  have hsz : ((w.alloc (.map #[] 0)).alloc (.cells #[.map (some w.heap.size)] 75)).heap.size = w.heap.size + 2 := by simp
  have hkb : KB ((w.alloc (.map #[] 0)).alloc (.cells #[.map (some w.heap.size)] 75)) w.heap.size 0 [] := kb_below (kb_made w) (below_alloc (Below.refl _ _) _)
  have hbx : ((w.alloc (.map #[] 0)).alloc (.cells #[.map (some w.heap.size)] 75)).heap[w.heap.size + 1]? = some (.cells #[.map (some w.heap.size)] 75 (0, 0)) := by
    have h := blk_new (w.alloc (.map #[] 0)) (.cells #[.map (some w.heap.size)] 75)
    simpa only [World.size_alloc] using h
  have HV := Aside0.mk (some_vis (en_below hb2 hE) hok hlen hbx hkb)
  have HB := Aside0.mk hb2
  have HZ := Lib.hid hsz
  clear hb1 hb2 hsz hkb hbx hE hok hlen
  go_enter Try.func28, Try.ntmps28
  go_wp2_with (go_at_call 32; go_loud (refine HV.out.mono ?_); rintro e w9 ⟨v, ps, rfl, hR9, hE9, hg9⟩; have HR9 := Aside0.mk hR9; have HE9 := Aside0.mk hE9; have HG9 := Aside0.mk hg9; clear hR9 hE9 hg9)
  go_ret
  refine ⟨v, ps, rfl, Kd.R_lower HR9.out (by rw [HZ.out]; omega), HE9.out, ?_⟩
  have hb := HB.out
  have hg := HG9.out
  exact ⟨hg.os.trans hb.os, hg.tape.trans hb.tape, hg.output.trans hb.output, Nat.le_trans hb.size hg.size, fun k hk => (hg.block k (Nat.lt_of_lt_of_le hk hb.size) (fun e => by injection e with e; omega)).trans (hb.block k hk)⟩
/-- Another row has been written, of other elements. -/
theorem erow_other {α β : Type} {d : Kd α} {d' : Kd β} {e e' base base' : Nat} {ok ok' : Nat → Prop} {w w1 : World} {v v' : Value} {xs : List α} {ys : List β} (h : d.R e w base ok v xs) (h' : d'.R e' w base' ok' v' ys) (he : ∀ q, q ∈ e :: d.E → q ≠ e') (hg : w.grownBy w1 v'.ownBlock) : d.R e w1 base ok v xs :=
  Kd.R_mono (Kd.R_step (Kd.R_bound h) (fun k hk hlt => hg.block k hlt (fun e1 => by
    obtain ⟨_, _, _, q, hq, cells, hc⟩ := hk
    obtain ⟨_, inner, hown, _⟩ := h'
    obtain ⟨cells', hc'⟩ := own_typed hown k e1.symm
    rw [hc] at hc'
    injection hc' with hc'
    injection hc' with _ hc' _
    exact he q hq hc'))) (fun _ hk => hk.1)
/-- Keys, as values. -/
def kkey : Kd EKey := Kd.pair (Kd.int .i64) Kd.string
theorem key_info : (Try.prog.info? 27).map (fun i => (i.zero, i.size, i.bytes)) = some (some (.agg #[.int .i64 0, .string ⟨#[]⟩]), 2, 24) := by kernel_rfl
theorem key_tok (w : World) (base : Nat) (ok : Nat → Prop) (k : EKey) : kkey.M w base ok k [.int .i64 k.1, .string k.2] := ⟨[.int .i64 k.1], [.string k.2], rfl, rfl, rfl⟩
def keysE (E : En) : List EKey := (visE E).map En.key
theorem map_take {α β : Type} (f : α → β) (l : List α) (j : Nat) (h : j < l.length) : (l.take (j + 1)).map f = (l.take j).map f ++ [f l[j]] := by
  rw [List.take_add_one, List.getElem?_eq_getElem h, List.map_append]
  rfl
theorem visR_pos : ∀ (E : En) (S : List EKey), ∀ N ∈ visR E S, ∃ up sp nm dl via pa pm, N = .node up sp nm dl via pa pm
  | .nil, _, N, h => by cases h
  | .node up sp nm dl via pa pm, S, N, h => by
    rw [visR_node] at h
    rcases List.mem_append.1 h with h | h
    · split at h
      · cases h
      · exact ⟨up, sp, nm, dl, via, pa, pm, List.mem_singleton.1 h⟩
    · exact visR_pos up _ N h
theorem visE_len (E : En) : (visE E).length ≤ E.len := by unfold visE; rw [List.length_reverse]; exact visR_len E []
set_option maxHeartbeats 8000000 in
set_option maxRecDepth 100000 in
theorem keys_calls {w : World} {E : En} {p : Option Addr} (hE : EnAt w E p) (hok : E.ok) (hlen : E.len ≤ 4000000) :
    Calls Try.prog 17 #[.pointer p] w fun e w' => ∃ v : Value, e = .returned v ∧ kkey.R 27 w' w.heap.size (fun _ => True) v (keysE E) ∧ Below w.heap.size w w' := by
  have hu67 := Try.underlying67
  have hu30 := Try.underlying30
  have hu48 := Try.underlying48
  have hu27 := Try.underlying27
  have hu70 := Try.underlying70
  have HV := Aside0.mk (visible_calls hE hok hlen)
  have HL := Lib.hid (show (visE E).length ≤ 4000000 from Nat.le_trans (visE_len E) hlen)
  clear hE hok hlen
  go_enter Try.func17, Try.ntmps17
  go_wp2_with (go_at_call 28; go_loud (refine HV.out.mono ?_); rintro e w1 ⟨v, ps, rfl, hR1, hE1, hB1⟩; obtain ⟨A1, c1, rfl⟩ := Kd.R_slice hR1; have HR1 := Aside0.mk hR1; have HE1 := Aside0.mk hE1; have HB1 := Aside0.mk hB1; clear hR1 hE1 hB1)
  obtain ⟨n, hn⟩ : ∃ n, ps.length = n := ⟨_, rfl⟩
  have hln : (visE E).length = n := by rw [← hn]; exact er_len HE1.out
  have HN := Lib.hid (show ps.length = n ∧ (visE E).length = n ∧ n ≤ 4000000 from ⟨hn, hln, by rw [← hln]; exact HL.out⟩)
  rw [hn]
  rw [hn] at HR1
  clear hn hln HV
  have hsz1 := HB1.out.size
  go_wp2
  go_loopg [3, 5, 9] n (fun gg s3 _ s9 wr => ∃ (j : Nat) (v : Value) (ks : List EKey), s9 = .int .i64 j ∧ v = s3 ∧ j ≤ n ∧ n - j = gg ∧ Hid (ks = ((visE E).take j).map En.key) ∧ Aside0 (kptr.R 30 wr w.heap.size (fun _ => True) (.slice A1 n c1) ps) ∧ Aside0 (EnRow wr (visE E) ps) ∧ Aside0 (kkey.R 27 wr w.heap.size (fun _ => True) v ks) ∧ Aside0 (Below w.heap.size w wr))
  case atStart => exact ⟨0, .slice none 0 0, [], rfl, rfl, Nat.zero_le _, rfl, Lib.hid rfl, HR1, HE1, ⟨Kd.R_nil _ _ _ _ _⟩, HB1⟩
  case round =>
    clear HR1 HE1 HB1
    obtain ⟨j, v, ks, rfl, rfl, hj, hgg, HK, HR, HE, HO, HB⟩ := hrel
    by_cases hlt : j < n
    · have hltz : (j : Int) < (n : Int) := by omega
      have hnb := HN.out.2.2
      have hjl : j < (visE E).length := by rw [HN.out.2.1]; exact hlt
      have hjp : j < ps.length := by rw [HN.out.1]; exact hlt
      obtain ⟨ad, ead, hx0⟩ := ReadsOf.at_ (Kd.reads_of_C (enc := Value.pointer) (d := none) (h1 := fun _ => rfl) (Kd.R_reads' HR.out).2.2) (j : Int) (by omega) (by rw [HN.out.1]; exact hltz)
      rw [Int.toNat_natCast, kp_rd ps j hjp] at hx0
      have hEj := er_get HE.out j hjl hjp
      obtain ⟨up, sp, nm, dl, via, pa, pm, hN⟩ := visR_pos E [] (visE E)[j] (by
        have h := List.getElem_mem hjl
        unfold visE at h
        exact List.mem_reverse.1 h)
      have hks : ks ++ [(sp, nm)] = ((visE E).take (j + 1)).map En.key := by
        rw [map_take En.key (visE E) j hjl, ← HK.out, hN]
        rfl
      rw [hN] at hEj
      have HKS := Lib.hid hks
      have hkl : ks.length ≤ 4000000 := by
        rw [HK.out, List.length_map, List.length_take]
        have := HN.out.2.2
        omega
      obtain ⟨g, pu, pp, pq, hpj, hc, -, -, -⟩ := hEj
      rw [hpj] at hx0
      have c1 : wr.cell? ⟨g, 1, none⟩ = some (.int .i64 sp) := (blk_cell hc 1).trans rfl
      have c2 : wr.cell? ⟨g, 2, none⟩ = some (.string nm) := (blk_cell hc 2).trans rfl
      cases ead
      have hszr := HB.out.size
      clear hks hN hc hpj hjl hjp
      go_wp2_with (at_builtin; refine Kd.R_append kkey (w0 := wr) w.heap.size rfl _ _ 48 27 (.agg #[.int .i64 0, .string ⟨#[]⟩]) 24 rfl Try.underlying48 key_info rfl (by decide) (by decide) v ks (sp, nm) [.int .i64 sp, .string nm] (fun _ => True) (fun _ => False) rfl rfl (key_tok _ _ _ (sp, nm)) (fun _ h_ => h_.elim) (fun _ _ => trivial) HO.out (Below.refl _ _) hszr ?hl ?hk)
      case hl => omega
      case hk =>
        intro v1 w3 ho hb hgr hat
        have HR3 := Aside0.mk (erow_other HR.out HO.out (fun q hq => by rcases List.mem_cons.1 hq with rfl | h; decide; cases h) hgr)
        have HE3 := Aside0.mk (er_keep (ek_row HO.out (by decide) hgr) HE.out)
        have HO3 := Aside0.mk ho
        have HB3 := Aside0.mk (HB.out.trans hb)
        clear ho hb hgr hat HR HE HO HB
        go_wp2
        go_roundg (n - (j + 1))
        case measure => omega
        case rel => exact ⟨j + 1, v1, _, by go_num, rfl, by omega, rfl, HKS, HR3, HE3, HO3, HB3⟩
    · obtain rfl : j = n := by omega
      go_wp2
      go_ret
      have hk := HK.out
      rw [List.take_of_length_le (Nat.le_of_eq HN.out.2.1)] at hk
      refine ⟨v, rfl, ?_, HB.out⟩
      have ho := HO.out
      rw [hk] at ho
      exact ho
theorem eqKey (d : Nat) (w : World) (x0 y0 : Int) (x1 y1 : ByteArray) : (Op.equalIn (d + 2) 27 (.agg #[.int .i64 x0, .string x1]) (.agg #[.int .i64 y0, .string y1])).run Try.prog w = .ok (x0 == y0 && (x1.toList == y1.toList)) w := by
  refine eqA_of Try.underlying27 (by kernel_rfl) ?_
  refine eqf_cons (by rfl) (by go_simp; rfl) (by go_simp; rfl) (by go_simp) ?_
  exact eqf_last (by rfl) (by go_simp; rfl) (by go_simp; rfl) (by go_simp)
theorem ba_list (a b : ByteArray) : (a.toList == b.toList) = decide (a = b) := by
  by_cases h : a = b
  · subst h; simp
  · rw [decide_eq_false h, beq_eq_false_iff_ne]
    intro e
    apply h
    rw [ByteArray.toList_eq, ByteArray.toList_eq] at e
    exact ByteArray.ext (Array.toList_inj.1 e)
theorem key_beq (a b : EKey) : (a.1 == b.1 && (a.2.toList == b.2.toList)) = decide (a = b) := by
  rw [ba_list]
  obtain ⟨a1, a2⟩ := a
  obtain ⟨b1, b2⟩ := b
  by_cases h1 : a1 = b1
  · by_cases h2 : a2 = b2
    · subst h1 h2; simp
    · simp [h1, h2]
  · simp [h1]
/-- What a key is bound to. -/
def findE : En → EKey → Option (Int × Int × En × En)
  | .nil, _ => none
  | .node up sp nm dl via pa pm, k => if (sp, nm) = k then some (dl, via, pa, pm) else findE up k
theorem findE_node (up : En) (sp : Int) (nm : ByteArray) (dl via : Int) (pa pm : En) (k : EKey) : findE (.node up sp nm dl via pa pm) k = if (sp, nm) = k then some (dl, via, pa, pm) else findE up k := rfl
/-- An item, in memory. -/
def ItemAt (w : World) : Option (Int × Int × En × En) → Value → Bool → Prop
  | none, v, b => v = .agg #[.int .i64 0, .int .i64 0, .pointer none, .pointer none] ∧ b = false
  | some (dl, via, pa, pm), v, b => ∃ pp pq : Option Addr, v = .agg #[.int .i64 dl, .int .i64 via, .pointer pp, .pointer pq] ∧ b = true ∧ EnAt w pa pp ∧ EnAt w pm pq
theorem item_zero (w : World) : (zeroValue 51).run Try.prog w = .ok (.agg #[.int .i64 0, .int .i64 0, .pointer none, .pointer none]) w := by kernel_rfl
set_option maxHeartbeats 8000000 in
set_option maxRecDepth 100000 in
theorem find_calls {w : World} {E : En} {p : Option Addr} (hE : EnAt w E p) (k : EKey) :
    Calls Try.prog 18 #[.pointer p, .agg #[.int .i64 k.1, .string k.2]] w fun e w' => ∃ (v : Value) (b : Bool), e = .returned (.tuple #[v, .bool b]) ∧ ItemAt w' (findE E k) v b ∧ Below w.heap.size w w' := by
  have hu70 := Try.underlying70
  have hu27 := Try.underlying27
  have hu51 := Try.underlying51
  have hu30 := Try.underlying30
  obtain ⟨sp, nm⟩ := k
  dsimp only
  have HE := Aside0.mk hE
  clear hE
  obtain ⟨F, hF⟩ : ∃ F, findE E (sp, nm) = F := ⟨_, rfl⟩
  rw [hF]
  have HF := Lib.hid hF
  clear hF
  go_enter Try.func18, Try.ntmps18
  go_wp2
  obtain ⟨W2, hW2⟩ : ∃ W2, (w.alloc (.cells #[.int .i64 sp, .string nm] 27)).alloc (.cells #[.int .i64 0, .int .i64 0, .pointer none, .pointer none] 51) = W2 := ⟨_, rfl⟩
  have hb2 : Below w.heap.size w W2 := by rw [← hW2]; exact below_alloc (below_alloc (Below.refl _ _) _) _
  have hk2 : W2.heap[w.heap.size]? = some (.cells #[.int .i64 sp, .string nm] 27 (0, 0)) := by rw [← hW2]; exact blk_alloc (blk_new w _) _
  have hi2 : W2.heap[w.heap.size + 1]? = some (.cells #[.int .i64 0, .int .i64 0, .pointer none, .pointer none] 51 (0, 0)) := by
    rw [← hW2]
    have h := blk_new (w.alloc (.cells #[.int .i64 sp, .string nm] 27)) (.cells #[.int .i64 0, .int .i64 0, .pointer none, .pointer none] 51)
    simpa only [World.size_alloc] using h
  have HE2 := Aside0.mk (en_below hb2 HE.out)
  have HZ2 := Aside0.mk (show Below w.heap.size w W2 ∧ W2.heap[w.heap.size]? = some (.cells #[.int .i64 sp, .string nm] 27 (0, 0)) ∧ W2.heap[w.heap.size + 1]? = some (.cells #[.int .i64 0, .int .i64 0, .pointer none, .pointer none] 51 (0, 0)) from ⟨hb2, hk2, hi2⟩)
  have HW2 := Lib.hid hW2
  clear hW2 hb2 hk2 hi2 HE
  rw [HW2.out]
  go_loopg [6] E.len (fun gg s6 wr => ∃ (N : En) (q : Option Addr), s6 = .pointer q ∧ N.len = gg ∧ Hid (findE N (sp, nm) = F) ∧ Aside0 (EnAt wr N q) ∧ Aside0 (Below w.heap.size w wr ∧ wr.heap[w.heap.size]? = some (.cells #[.int .i64 sp, .string nm] 27 (0, 0)) ∧ wr.heap[w.heap.size + 1]? = some (.cells #[.int .i64 0, .int .i64 0, .pointer none, .pointer none] 51 (0, 0))))
  case atStart => exact ⟨E, p, rfl, rfl, HF, HE2, HZ2⟩
  case round =>
    clear HF HE2 HZ2
    obtain ⟨N, q, rfl, hgg, HF, HE, HZ⟩ := hrel
    cases N with
    | nil =>
      obtain rfl : q = none := HE.out
      obtain rfl : none = F := HF.out
      have z0 : wr.cell? ⟨w.heap.size + 1, 0, none⟩ = some (.int .i64 0) := (blk_cell HZ.out.2.2 0).trans rfl
      have z1 : wr.cell? ⟨w.heap.size + 1, 1, none⟩ = some (.int .i64 0) := (blk_cell HZ.out.2.2 1).trans rfl
      have z2 : wr.cell? ⟨w.heap.size + 1, 2, none⟩ = some (.pointer none) := (blk_cell HZ.out.2.2 2).trans rfl
      have z3 : wr.cell? ⟨w.heap.size + 1, 3, none⟩ = some (.pointer none) := (blk_cell HZ.out.2.2 3).trans rfl
      have f0 := blk_frozen HZ.out.2.2 0
      have f1 := blk_frozen HZ.out.2.2 1
      have f2 := blk_frozen HZ.out.2.2 2
      have f3 := blk_frozen HZ.out.2.2 3
      go_wp2
      refine bodyPost_ret (results_ct rfl _ _ (w.heap.size + 1) 51 #[.int .i64 0, .int .i64 0, .pointer none, .pointer none] (0, 0) _ rfl (blk_put (blk_put (blk_put (blk_put HZ.out.2.2 0 _ rfl) 1 _ rfl) 2 _ rfl) 3 _ rfl) hu51 rfl (by kernel_rfl)) rfl ?_
      exact ⟨_, _, rfl, ⟨rfl, rfl⟩, below_set (below_set (below_set (below_set HZ.out.1 (by omega)) (by omega)) (by omega)) (by omega)⟩
    | node up sp1 nm1 dl via pa pm =>
      obtain ⟨g, pu, pp, pq, rfl, hc, h1, h2, h3⟩ := HE.out
      have c0 : wr.cell? ⟨g, 0, none⟩ = some (.pointer pu) := (blk_cell hc 0).trans rfl
      have c1 : wr.cell? ⟨g, 1, none⟩ = some (.int .i64 sp1) := (blk_cell hc 1).trans rfl
      have c2 : wr.cell? ⟨g, 2, none⟩ = some (.string nm1) := (blk_cell hc 2).trans rfl
      have c3 : wr.cell? ⟨g, 3, none⟩ = some (.int .i64 dl) := (blk_cell hc 3).trans rfl
      have c4 : wr.cell? ⟨g, 4, none⟩ = some (.int .i64 via) := (blk_cell hc 4).trans rfl
      have c5 : wr.cell? ⟨g, 5, none⟩ = some (.pointer pp) := (blk_cell hc 5).trans rfl
      have c6 : wr.cell? ⟨g, 6, none⟩ = some (.pointer pq) := (blk_cell hc 6).trans rfl
      have k0 : wr.cell? ⟨w.heap.size, 0, none⟩ = some (.int .i64 sp) := (blk_cell HZ.out.2.1 0).trans rfl
      have k1 : wr.cell? ⟨w.heap.size, 1, none⟩ = some (.string nm) := (blk_cell HZ.out.2.1 1).trans rfl
      have hq : ∀ W : World, (Op.equalIn 10000 27 (.agg #[.int .i64 sp1, .string nm1]) (.agg #[.int .i64 sp, .string nm])).run Try.prog W = .ok (decide ((sp1, nm1) = (sp, nm))) W := fun W => by
        rw [eqKey 9998 W, key_beq (sp1, nm1) (sp, nm)]
      have hgl : up.len < gk := by rw [← hgg]; exact Nat.lt_succ_self _
      have hF := HF.out
      rw [findE_node] at hF
      by_cases he : (sp1, nm1) = (sp, nm)
      · rw [if_pos he] at hF
        rw [decide_eq_true he] at hq
        subst hF
        obtain ⟨z0, z1, z2, z3⟩ : wr.cell? ⟨w.heap.size + 1, 0, none⟩ = some (.int .i64 0) ∧ wr.cell? ⟨w.heap.size + 1, 1, none⟩ = some (.int .i64 0) ∧ wr.cell? ⟨w.heap.size + 1, 2, none⟩ = some (.pointer none) ∧ wr.cell? ⟨w.heap.size + 1, 3, none⟩ = some (.pointer none) :=
          ⟨(blk_cell HZ.out.2.2 0).trans rfl, (blk_cell HZ.out.2.2 1).trans rfl, (blk_cell HZ.out.2.2 2).trans rfl, (blk_cell HZ.out.2.2 3).trans rfl⟩
        have f0 := blk_frozen HZ.out.2.2 0
        have f1 := blk_frozen HZ.out.2.2 1
        have f2 := blk_frozen HZ.out.2.2 2
        have f3 := blk_frozen HZ.out.2.2 3
        have HP := Aside0.mk (show EnAt wr pa pp ∧ EnAt wr pm pq from ⟨h2, h3⟩)
        clear HF HE he hc h1 h2 h3 hgg
        go_wp2
        go_quiet (fail)
        go_wp2
        have ek : ∀ m v0 v1 v2 v3, EKeep wr (((((wr.drewN m).setCell ⟨w.heap.size + 1, 0, none⟩ v0).setCell ⟨w.heap.size + 1, 1, none⟩ v1).setCell ⟨w.heap.size + 1, 2, none⟩ v2).setCell ⟨w.heap.size + 1, 3, none⟩ v3) := fun m v0 v1 v2 v3 => by
          have h0 : (wr.drewN m).heap[w.heap.size + 1]? = some (.cells #[.int .i64 0, .int .i64 0, .pointer none, .pointer none] 51 (0, 0)) := HZ.out.2.2
          have h1 := blk_put h0 0 v0 rfl
          have h2 := blk_put h1 1 v1 rfl
          have h3 := blk_put h2 2 v2 rfl
          exact ek_trans (ek_below (pw_below_drewN (Below.refl _ _) m)) (ek_trans (ek_set h0 (by decide)) (ek_trans (ek_set h1 (by decide)) (ek_trans (ek_set h2 (by decide)) (ek_set h3 (by decide)))))
        refine bodyPost_ret (results_ct rfl _ _ (w.heap.size + 1) 51 #[.int .i64 dl, .int .i64 via, .pointer pp, .pointer pq] (0, 0) _ rfl (blk_put (blk_put (blk_put (blk_put (w := wr.drewN _) HZ.out.2.2 0 _ rfl) 1 _ rfl) 2 _ rfl) 3 _ rfl) hu51 rfl (by kernel_rfl)) rfl ?_
        exact ⟨_, _, rfl, ⟨pp, pq, rfl, rfl, en_keep (ek _ _ _ _ _) HP.out.1, en_keep (ek _ _ _ _ _) HP.out.2⟩, below_set (below_set (below_set (below_set (pw_below_drewN HZ.out.1 _) (by omega)) (by omega)) (by omega)) (by omega)⟩
      · rw [if_neg he] at hF
        rw [decide_eq_false he] at hq
        have HF1 := Lib.hid hF
        have HU := Aside0.mk h1
        clear HF HE hF he hc h1 h2 h3 hgg c3 c4 c5 c6
        go_wp2
        go_quiet (fail)
        go_wp2
        go_roundg up.len
        case measure => omega
        case rel => exact ⟨up, pu, rfl, rfl, HF1, ⟨en_below (pw_below_drewN (Below.refl _ _) _) HU.out⟩, ⟨pw_below_drewN HZ.out.1 _, HZ.out.2⟩⟩
end Go.Proofs.Ytfmbfnjlennfoaa.QN
