-- Laid by this claim's own program (mprint.py in the repo).
import Derived.Test.YtcccambfcedakaaQAx0
import Derived.Test.YtcccambfcedakaaQAx5
import Derived.Test.YtcccambfcedakaaQAx6
namespace Go.Proofs.Ytcccambfcedakaa.QA
open Go.RowKit Go.Proofs.YtcccambfcedakaaW.PrintWords Go.Proofs.YtcccambfcedakaaW.PrintLast Go.Proofs.YtcccambfcedakaaW.PrintMore
attribute [local go_sem] max2_int min2_int max_two min_two max_three min_three max_four min_four   -- for this text's walks alone
set_option linter.unusedVariables false
set_option linter.unusedSimpArgs false

/-! ### slices_Contains_int_int: function 52 -/
theorem slices_Contains_int_int.at_ (l : List Int) (i : Nat) (x : Int) (hi : i < l.length) (h : rd l (i : Int) = x) : l[i]? = some x := by
  rw [← h, List.getElem?_eq_getElem hi]
  show some l[i] = some (l.getD i 0)
  rw [List.getD_eq_getElem?_getD, List.getElem?_eq_getElem hi]
  rfl
def slices_Contains_int_int.post (l : List Int) (v : Int) (e : Ending) : Prop := ∃ r : Int, e = .returned (.int .i64 r) ∧ decide (0 ≤ r) = l.contains v
set_option maxHeartbeats 2000000 in
set_option maxRecDepth 100000 in
theorem slices_Contains_int_int.index (A : Option Addr) (c : Nat) (l : List Int) (v : Int) (w : World) (hC : Kd.C (Kd.int .i64) w A l.length l) :
    Calls Try.prog 74 #[.slice A l.length c, .int .i64 v] w fun e w' => slices_Contains_int_int.post l v e ∧ w = w' := by
  have hmax := Kd.C_max hC
  have HC := Lib.hid hC
  clear hC
  obtain ⟨n, hn⟩ : ∃ n, l.length = n := ⟨_, rfl⟩
  rw [hn] at hmax ⊢
  have HN := Lib.hid hn
  clear hn
  go_enter Try.func74, Try.ntmps74
  go_wp2
  go_loopg [5, 8] n (fun gg _ s8 wr => ∃ kk : Nat, kk ≤ n ∧ n - kk ≤ gg ∧ s8 = .int .i64 kk ∧ wr = w ∧ Aside0 (∀ j, j < kk → l[j]? ≠ some v))
  case atStart => exact ⟨0, Nat.zero_le _, by omega, rfl, rfl, ⟨fun j hj => absurd hj (Nat.not_lt_zero _)⟩⟩
  case round =>
    obtain ⟨kk, hkk, hg, rfl, rfl, HA⟩ := hrel
    by_cases hlt : kk < n
    · have hltz : (kk : Int) < (n : Int) := by omega
      obtain ⟨ad, ead, hx0⟩ := Kd.at_int HC.out (kk : Int) (by omega) (by rw [HN.out]; omega)
      rw [Int.toNat_natCast] at hx0
      have hq0 := Lib.hid (slices_Contains_int_int.at_ l kk _ (by rw [HN.out]; exact hlt) rfl)
      generalize rd l (kk : Int) = x at hx0 hq0
      cases ead
      by_cases hq : v = x
      · subst hq
        have e1 : (v == v) = true := beq_self_eq_true v
        go_wp2
        go_ret
        refine ⟨⟨_, rfl, ?_⟩, rfl⟩
        have : v ∈ l := List.mem_iff_getElem?.2 ⟨kk, hq0.out⟩
        rw [List.contains_iff_mem.2 this]
        exact decide_eq_true (Int.natCast_nonneg _)
      · have e1 : (v == x) = false := beq_eq_false_iff_ne.2 hq
        have HQ := Lib.hid hq
        clear hq
        go_wp2
        go_roundg (n - (kk + 1))
        case measure => omega
        case rel =>
          refine ⟨kk + 1, by omega, by omega, by go_num, rfl, ⟨fun j hj => ?_⟩⟩
          by_cases e : j = kk
          · subst e
            rw [hq0.out]
            intro h
            injection h with h
            exact HQ.out h.symm
          · exact HA.out j (by omega)
    · have hltz : ¬ (kk : Int) < (n : Int) := by omega
      have : kk = n := by omega
      subst this
      go_wp2
      go_ret
      refine ⟨⟨_, rfl, ?_⟩, rfl⟩
      have : ¬ v ∈ l := fun h => by
        obtain ⟨j, hj⟩ := List.mem_iff_getElem?.1 h
        have hjl := (List.getElem?_eq_some_iff.1 hj).1
        exact HA.out j (by rw [HN.out] at hjl; exact hjl) hj
      have h2 : l.contains v = false := by
        rw [← Bool.not_eq_true]; exact fun h => this (List.contains_iff_mem.1 h)
      rw [h2]; rfl
def slices_Contains_int_int.f (a0 : List Int) (a1 : Int) : Option (Bool) := some (a0.contains a1)
theorem slices_Contains_int_int.calls (A0 : Option Addr) (c0 : Nat) (l0 : List Int) (a1 : Int) (r : Bool) (w : World) (hr0 : Kd.C (Kd.int .i64) w A0 l0.length l0) (hc0 : l0.length ≤ c0) (h : slices_Contains_int_int.f l0 a1 = some r) :
    Calls Try.prog 52 #[.slice A0 l0.length c0, .int .i64 a1] w fun e w' => e = .returned (.bool r) ∧ Drawn0 w w' := by
  obtain rfl := Option.some.inj h
  have hI := slices_Contains_int_int.index A0 c0 l0 a1 w hr0
  obtain ⟨q, hq⟩ : ∃ q, l0.contains a1 = q := ⟨_, rfl⟩
  rw [hq]
  have HI := Lib.hid hI
  have HQ := Lib.hid hq
  clear hI hr0 h hq
  generalize l0.length = n at HI hc0 ⊢
  go_enter Try.func52, Try.ntmps52
  go_wp2_with fail
  refine HI.out.mono ?_
  rintro e w' ⟨⟨r0, rfl, h0⟩, rfl⟩
  have H0 := Lib.hid h0
  clear h0
  go_wp2
  go_ret
  refine ⟨?_, Drawn0.refl _⟩
  rw [← HQ.out, ← H0.out]
  rfl



/-! ### lex_without: function 30 -/
theorem wo_nat (xs : List S26) (i : Nat) : rd_T26 xs (i : Int) = xs.getD i z26 := rfl
def woidx (p : S26 → Bool) (ts : List S26) : Int := match ts.findIdx? p with | some i => (i : Int) | none => -1
theorem woidx_hit (p : S26 → Bool) (ts : List S26) (i : Nat) (hi : i < ts.length) (h : p (ts.getD i z26) = true) (hb : ∀ j, j < i → p (ts.getD j z26) = false) : woidx p ts = (i : Int) := by
  have : ts.findIdx? p = some i := by
    rw [List.findIdx?_eq_some_iff_getElem]
    refine ⟨hi, by simpa [List.getD_eq_getElem?_getD, hi] using h, fun j hj => ?_⟩
    have := hb j hj
    simpa [List.getD_eq_getElem?_getD, Nat.lt_trans hj hi] using this
  simp [woidx, this]
theorem woidx_miss (p : S26 → Bool) (ts : List S26) (hb : ∀ j, j < ts.length → p (ts.getD j z26) = false) : woidx p ts = -1 := by
  have : ts.findIdx? p = none := by
    rw [List.findIdx?_eq_none_iff]
    intro x hx
    obtain ⟨j, hj, rfl⟩ := List.getElem_of_mem hx
    have := hb j hj
    simpa [List.getD_eq_getElem?_getD, hj] using this
  simp [woidx, this]
def agg26 (x : S26) : Value := .agg #[.int .i64 x.f0, .int .i64 x.f1, .int .i64 x.f2]
set_option maxHeartbeats 2000000 in
set_option maxRecDepth 100000 in
theorem wo_index (p : S26 → Bool) (fn : Nat) (lb : Array Value) (eg : ∀ args w, (callFunc fn args).run Try.prog w = .ok (.enter fn args) w) (A : Option Addr) (c : Nat) (ts : List S26) (w : World)
    (hC : Kd.C k26 w A ts.length ts) (hc : ts.length ≤ c)
    (HP : ∀ W x, Below w.heap.size w W → Calls Try.prog fn (#[agg26 x] ++ lb) W fun e w' => e = .returned (.bool (p x)) ∧ Below W.heap.size W w') :
    Calls Try.prog 73 #[.slice A ts.length c, .func (.func fn) #[] lb] w fun e w' => e = .returned (.int .i64 (woidx p ts)) ∧ Below w.heap.size w w' := by
  have hmax := Kd.C_max hC
  have hu26 := Try.underlying26
  have HC := Lib.hid hC
  have HPH := Lib.hid HP
  clear hC HP
  obtain ⟨n, hn⟩ : ∃ n, ts.length = n := ⟨_, rfl⟩
  rw [hn] at hmax hc ⊢
  have HN := Lib.hid hn
  clear hn
  go_enter Try.func73, Try.ntmps73
  go_wp2
  go_loopg [5, 8] n (fun gg _ s8 wr => ∃ kk : Nat, kk ≤ n ∧ n - kk ≤ gg ∧ s8 = .int .i64 kk ∧ Aside0 (Below w.heap.size w wr) ∧ Aside0 (∀ j, j < kk → p (ts.getD j z26) = false))
  case atStart => exact ⟨0, Nat.zero_le _, by omega, rfl, ⟨Below.refl _ w⟩, ⟨fun j hj => absurd hj (Nat.not_lt_zero _)⟩⟩
  case round =>
    obtain ⟨kk, hkk, hg, rfl, BW, HA⟩ := hrel
    by_cases hlt : kk < n
    · have hltz : (kk : Int) < (n : Int) := by omega
      obtain ⟨ad, ead, hx0, hx1, hx2⟩ := at_T26 (Kd.C_below HC.out BW.out) (kk : Int) (by omega) (by rw [HN.out]; omega)
      rw [Int.toNat_natCast] at hx0 hx1 hx2
      have hcall := HPH.out wr (rd_T26 ts (kk : Int)) BW.out
      have hq0 : Hid (rd_T26 ts (kk : Int) = ts.getD kk z26) := Lib.hid (wo_nat ts kk)
      generalize rd_T26 ts (kk : Int) = x at hx0 hx1 hx2 hcall hq0
      obtain ⟨t0, t1, t2⟩ := x
      dsimp only [agg26] at *
      cases ead
      cases hq : p ⟨t0, t1, t2⟩ with
      | true =>
        have HQ := Lib.hid hq
        rw [hq] at hcall
        clear hq
        go_wp2_with (go_at_fn fn; refine hcall.mono ?_; rintro e w' ⟨rfl, hb'⟩)
        go_ret
        refine ⟨?_, (BW.out).trans (hb'.mono BW.out.size)⟩
        rw [woidx_hit p ts kk (by rw [HN.out]; exact hlt) (by rw [← hq0.out]; exact HQ.out) HA.out]; rfl
      | false =>
        have HQ := Lib.hid hq
        rw [hq] at hcall
        clear hq
        go_wp2_with (go_at_fn fn; refine hcall.mono ?_; rintro e w' ⟨rfl, hb'⟩)
        go_roundg (n - (kk + 1))
        case measure => omega
        case rel =>
          refine ⟨kk + 1, by omega, by omega, by go_num, ⟨(BW.out).trans (hb'.mono BW.out.size)⟩, ⟨fun j hj => ?_⟩⟩
          by_cases e : j = kk
          · subst e
            rw [← hq0.out]; exact HQ.out
          · exact HA.out j (by omega)
    · have hltz : ¬ (kk : Int) < (n : Int) := by omega
      have : kk = n := by omega
      subst this
      go_wp2
      go_ret
      refine ⟨?_, BW.out⟩
      rw [woidx_miss p ts (by rw [HN.out]; exact HA.out)]; rfl
theorem wo_clear {P : Program} (w : World) (t e ty : TypeId) (z : Value) (ht : P.underlying t = some (.slice e)) (hv : ∀ w, (zeroValue e).run P w = .ok z w) (h1 : ∀ u ∈ z.cells.toList, u.oneCell' = true) (hz : 0 < z.cells.size) (b o n c : Nat) (hn : 0 < n)
    (hc : ∀ j, j < n * z.cells.size → (w.cell? ⟨b, o + j, none⟩).isSome = true) (hf : ∀ j, j < n * z.cells.size → w.frozen? ⟨b, o + j, none⟩ = false) :
    (Builtin.clear_ #[t] ty #[.slice (some ⟨b, o, none⟩) n c]).run P w = .ok (.tuple #[]) (w.setCells b o (Builtin.zeroCells z.cells n).toList) ∧ (Builtin.zeroCells z.cells n).toList.length = n * z.cells.size := by
  have hl : (Builtin.zeroCells z.cells n).toList.length = n * z.cells.size := by simp [Builtin.zeroCells]
  have hst := run_storeCells_cells (P := P) b o (Builtin.zeroCells z.cells n).toList 0 w (by simpa [hl] using hc) (by simpa [hl] using hf) (by
    intro v hv'
    simp only [Builtin.zeroCells, Array.toList_map, Array.toList_range, List.mem_map, List.mem_range] at hv'
    obtain ⟨i, _, rfl⟩ := hv'
    refine h1 _ ?_
    have : i % z.cells.size < z.cells.size := Nat.mod_lt _ hz
    simp [this])
  simp only [Nat.add_zero] at hst
  obtain ⟨m, rfl⟩ : ∃ m, n = m + 1 := ⟨n - 1, by omega⟩
  refine ⟨?_, hl⟩
  simp [Builtin.clear_, run_underlying ht, hv, hst]

theorem wo_tail {α : Type} {d : Kd α} {e base g m cap o : Nat} {ok : Nat → Prop} {w : World} {xs : List α} (h : d.R e w base ok (.slice (some ⟨g, 0, none⟩) m cap) xs) (vs : List Value) (ho : m * d.sz ≤ o) (hl : o + vs.length ≤ cap * d.sz) :
    d.R e (w.setCells g o vs) base ok (.slice (some ⟨g, 0, none⟩) m cap) xs ∧ w.grownBy (w.setCells g o vs) (some g) := by
  obtain ⟨h0, inner, hown, hr⟩ := h
  have hm := (Kd.R_reads' (d := d) (e := e) (w := w) (base := base) (ok := ok) ⟨h0, inner, hown, hr⟩).1
  obtain ⟨h1, h2⟩ := hown
  rcases h2 with ⟨hv, _⟩ | ⟨g', cap', cur, hv, hb, hh, hnc, hcm, hcs, htk⟩
  · cases hv
  · obtain ⟨rfl, rfl⟩ : g = g' ∧ cap = cap' := by
      injection hv with ha _ hc
      injection ha with ha
      injection ha with hg'
      exact ⟨hg', hc⟩
    obtain ⟨cur', hh', hs', ht'⟩ := setCells_row vs o w cur hh (by rw [hcs]; exact hl)
    obtain ⟨s1, s2, s3, s4⟩ := setCells_same g vs o w
    refine ⟨⟨h0, inner, ⟨h1, .inr ⟨g, cap, cur', by rw [hm], hb, hh', hnc, hcm, by rw [hs', hcs], ?_⟩⟩, hr.imp_ (fun p c hp => d.M_move (fun k hk => setCells_far vs o k ?_) hp)⟩, ?_⟩
    · have hcl : cur.toList.length = cap * d.sz := by rw [Array.length_toList, hcs]
      rw [ht', ← htk, List.append_assoc, List.take_append_of_le_length (by rw [List.length_take, hcl, ← hm]; omega), List.take_take, Nat.min_eq_left (by rw [← hm]; exact ho)]
    · intro he
      subst he
      exact hk.2 (by simp [Value.ownBlock])
    · exact ⟨s1, s2, s3, Nat.le_of_eq s4.symm, fun k hk hne => setCells_far vs o k (fun he => hne (by rw [he]))⟩
theorem wo_elem {w : World} {base g n cap : Nat} {ok : Nat → Prop} {xs : List S26} (h : Kd.R k26 26 w base ok (.slice (some ⟨g, 0, none⟩) n cap) xs) (i : Nat) (hi : i < n) :
    ∃ c : List Value, c.length = k26.sz ∧ ∀ j u, c[j]? = some u → w.cell? ⟨g, (i : Int).toNat * k26.sz + j, none⟩ = some u := by
  obtain ⟨hn, _, hC⟩ := Kd.R_reads' h
  obtain ⟨ad, c, e, hl, hK, hc⟩ := Kd.C_get hC z26 (i : Int) (by omega) (by omega)
  cases e
  refine ⟨c, hl, fun j u hj => ?_⟩
  have := hc j u hj
  rwa [add_plain] at this
theorem wo_info : (Try.prog.info? 26).map (·.size) = some 3 := by kernel_rfl
theorem wo_zero : ∀ w : World, (zeroValue 26).run Try.prog w = .ok (.agg #[.int .i64 0, .int .i64 0, .int .i64 0]) w := fun w => by kernel_rfl
theorem wo_tinfo : ∃ i, Try.prog.info? 26 = some i ∧ i.size = 3 := by
  obtain ⟨i, hi, h⟩ := Option.map_eq_some_iff.1 wo_info
  exact ⟨i, hi, h⟩
theorem wo_block {w : World} {base g n cap : Nat} {ok : Nat → Prop} {xs : List S26} (h : Kd.R k26 26 w base ok (.slice (some ⟨g, 0, none⟩) n cap) xs) :
    n ≤ cap ∧ cap ≤ maxLen ∧ ∃ cur : Array Value, w.heap[g]? = some (.cells cur 26 (0, 0)) ∧ cur.size = cap * 3 := by
  obtain ⟨_, inner, ⟨_, h2⟩, _⟩ := h
  rcases h2 with ⟨hv, _⟩ | ⟨g', cap', cur, hv, hb, hh, hnc, hcm, hcs, htk⟩
  · cases hv
  · obtain ⟨rfl, hn, rfl⟩ : g = g' ∧ n = xs.length ∧ cap = cap' := by
      injection hv with ha hn hc
      injection ha with ha
      injection ha with hg'
      exact ⟨hg', hn, hc⟩
    exact ⟨by omega, hcm, cur, hh, hcs⟩
theorem wo_clearR {w : World} {base g n i cap : Nat} {ok : Nat → Prop} {xs : List S26} (h : Kd.R k26 26 w base ok (.slice (some ⟨g, 0, none⟩) n cap) xs) (hi : i < n) :
    ∃ vs : List Value, (∀ ty, (Builtin.clear_ #[23] ty #[.slice (some ⟨g, i * 3, none⟩) (n - i) (cap - i)]).run Try.prog w = .ok (.tuple #[]) (w.setCells g (i * 3) vs)) ∧ vs.length = (n - i) * 3 := by
  obtain ⟨hnc, _, cur, hh, hs⟩ := wo_block h
  have hm : ∀ ty, _ := fun ty => wo_clear (P := Try.prog) w 23 26 ty (.agg #[.int .i64 0, .int .i64 0, .int .i64 0]) Try.underlying23 wo_zero (by simp [Value.cells, Value.oneCell']) (by simp [Value.cells]) g (i * 3) (n - i) (cap - i) (by omega)
    (fun j hj => by
      have hj : j < (n - i) * 3 := by simpa [Value.cells] using hj
      simp [World.cell?, hh]; omega)
    (fun j hj => blk_frozen hh _)
  exact ⟨_, fun ty => (hm ty).1, by have := (hm 0).2; simpa [Value.cells] using this⟩
structure DInv (p : S26 → Bool) (ts : List S26) (n i j : Nat) (dk : List S26) : Prop where
  len : dk.length = n
  lt : i < j
  front : dk.take i = (ts.take j).filter (fun x => !p x)
  back : dk.drop j = ts.drop j
theorem wo_keep {p : S26 → Bool} {ts dk : List S26} {n i j : Nat} (h : DInv p ts n i j dk) (ht : ts.length = n) (hj : j < n) {x : S26} (hx : ts[j]? = some x) (hp : p x = false) : DInv p ts n (i + 1) (j + 1) (dk.set i x) := by
  have hl := h.len; have hlt := h.lt
  refine ⟨by rw [List.length_set, hl], by omega, ?_, ?_⟩
  · rw [List.take_add_one, List.getElem?_set_self (by omega), List.take_set_of_le (Nat.le_refl i), h.front, List.take_add_one, hx, List.filter_append]
    simp [hp]
  · rw [List.drop_set_of_lt (by omega)]
    have := congrArg (List.drop 1) h.back
    rw [List.drop_drop, List.drop_drop] at this
    exact this
theorem wo_skip {p : S26 → Bool} {ts dk : List S26} {n i j : Nat} (h : DInv p ts n i j dk) {x : S26} (hx : ts[j]? = some x) (hp : p x = true) : DInv p ts n i (j + 1) dk := by
  refine ⟨h.len, by have := h.lt; omega, ?_, ?_⟩
  · rw [h.front, List.take_add_one, hx, List.filter_append]
    simp [hp]
  · have := congrArg (List.drop 1) h.back
    rw [List.drop_drop, List.drop_drop] at this
    exact this
theorem wo_start {p : S26 → Bool} {ts : List S26} {i : Nat} (h : woidx p ts = (i : Int)) : i < ts.length ∧ DInv p ts ts.length i (i + 1) ts := by
  unfold woidx at h
  cases hf : ts.findIdx? p with
  | none => rw [hf] at h; dsimp only at h; omega
  | some k =>
    rw [hf] at h
    obtain rfl : k = i := by dsimp only at h; omega
    rw [List.findIdx?_eq_some_iff_getElem] at hf
    obtain ⟨hk, h1, h2⟩ := hf
    refine ⟨hk, rfl, Nat.lt_succ_self _, ?_, rfl⟩
    rw [List.take_add_one, List.filter_append, List.getElem?_eq_getElem hk]
    have e1 : (ts.take k).filter (fun x => !p x) = ts.take k := by
      rw [List.filter_eq_self]
      intro x hx
      obtain ⟨j, hj, rfl⟩ := List.getElem_of_mem hx
      rw [List.length_take] at hj
      have := h2 j (by omega)
      simpa using this
    rw [e1]; simp [h1]
theorem wo_none {p : S26 → Bool} {ts : List S26} (h : woidx p ts = -1) : ts.filter (fun x => !p x) = ts := by
  unfold woidx at h
  cases hf : ts.findIdx? p with
  | some k => rw [hf] at h; dsimp only at h; omega
  | none =>
    rw [List.findIdx?_eq_none_iff] at hf
    rw [List.filter_eq_self]
    intro x hx
    simp [hf x hx]
theorem wo_cases (p : S26 → Bool) (ts : List S26) : woidx p ts = -1 ∨ ∃ i : Nat, woidx p ts = (i : Int) := by
  unfold woidx
  cases ts.findIdx? p with
  | none => exact .inl rfl
  | some k => exact .inr ⟨k, rfl⟩
set_option maxHeartbeats 4000000 in
set_option maxRecDepth 100000 in
theorem wo_delete (p : S26 → Bool) (fn : Nat) (lb : Array Value) (eg : ∀ args w, (callFunc fn args).run Try.prog w = .ok (.enter fn args) w) (v : Value) (ts : List S26) (w0 w : World) (ok : Nat → Prop)
    (HO : Kd.R k26 26 w w0.heap.size ok v ts) (HB : Below w0.heap.size w0 w)
    (HP : ∀ W x, w.grownBy W v.ownBlock → Calls Try.prog fn (#[agg26 x] ++ lb) W fun e w' => e = .returned (.bool (p x)) ∧ Below W.heap.size W w') :
    Calls Try.prog 50 #[v, .func (.func fn) #[] lb] w fun e w' => ∃ v1 : Value, e = .returned v1 ∧ Kd.R k26 26 w' w0.heap.size ok v1 (ts.filter (fun x => !p x)) ∧ Below w0.heap.size w0 w' := by
  have hu1 := Try.underlying23
  have hu2 := Try.underlying26
  obtain ⟨A, c, rfl⟩ := Kd.R_slice HO
  obtain ⟨_, hnc, hC⟩ := Kd.R_reads' HO
  have hmax := Kd.C_max hC
  have HI := wo_index p fn lb eg A c ts w hC hnc (fun W x hb => HP W x (grown_of_below hb _))
  have HO0 := Aside0.mk HO
  have HB0 := Aside0.mk HB
  have HPH := Lib.hid HP
  clear HO HB HP hC
  rcases wo_cases p ts with h1 | ⟨i0, h1⟩
  · rw [h1] at HI
    have hf := Lib.hid (wo_none h1)
    clear h1
    go_enter Try.func50, Try.ntmps50
    go_wp2_with (go_at_call 73; refine HI.mono ?_; rintro e w1 ⟨rfl, hb⟩)
    go_ret
    exact ⟨_, rfl, by rw [hf.out]; exact Kd.R_below HO0.out hb, below_then HB0.out HB0.out.size hb⟩
  · obtain ⟨hi0, hD⟩ := wo_start h1
    rw [h1] at HI
    have HD := Aside0.mk hD
    clear h1 hD
    obtain ⟨g, cap, hv, hbg, hgw, _⟩ := Kd.R_form HO0.out (by omega)
    injection hv with ha _ hcc
    subst ha
    subst hcc
    obtain ⟨n, hn⟩ : ∃ n, ts.length = n := ⟨_, rfl⟩
    rw [hn] at hmax hnc hi0 HD HO0 HI ⊢
    have HN := Lib.hid hn
    clear hn
    have hne1 : ((i0 : Int) == -1) = false := beq_eq_false_iff_ne.2 (by omega)
    go_enter Try.func50, Try.ntmps50
    go_wp2_with (go_at_call 73; refine HI.mono ?_; rintro e w1 ⟨rfl, hb⟩)
    go_loopg [5, 6, 7] n (fun gg s5 s6 _ wr => ∃ (i j : Nat) (dk : List S26), s5 = .int .i64 i ∧ s6 = .int .i64 j ∧ j ≤ n ∧ n - j ≤ gg ∧ Aside0 (DInv p ts n i j dk) ∧ Aside0 (Kd.R k26 26 wr w0.heap.size ok (.slice (some ⟨g, 0, none⟩) n c) dk) ∧ Aside0 (w.grownBy wr (some g)) ∧ Aside0 (Below w0.heap.size w0 wr))
    case atStart => exact ⟨i0, i0 + 1, ts, rfl, by go_num, by omega, by omega, HD, ⟨Kd.R_below HO0.out hb⟩, ⟨grown_of_below hb _⟩, ⟨below_then HB0.out HB0.out.size hb⟩⟩
    case round =>
      clear hb HI HO0 HB0 HD hne1
      obtain ⟨i, j, dk, rfl, rfl, hjn, hgg, HD, HO, HG, HB⟩ := hrel
      have hij := HD.out.lt
      have hlen := Lib.hid HD.out.len
      by_cases hlt : j < n
      · have hltz : (j : Int) < (n : Int) := by omega
        obtain ⟨ad, ead, hx0, hx1, hx2⟩ := at_T26 (Kd.R_reads' HO.out).2.2 (j : Int) (by omega) (by rw [hlen.out]; omega)
        cases ead
        rw [Int.toNat_natCast, add_plain] at hx0 hx1 hx2
        dsimp only at hx1 hx2
        have hq0 : Hid (ts[j]? = some (rd_T26 dk (j : Int))) := by
          refine Lib.hid ?_
          have h2 := congrArg (fun l => l[0]?) HD.out.back
          simp only [List.getElem?_drop, Nat.add_zero] at h2
          rw [← h2]
          show _ = some (dk.getD j z26)
          rw [List.getD_eq_getElem?_getD, List.getElem?_eq_getElem (by rw [hlen.out]; exact hlt)]
          rfl
        generalize rd_T26 dk (j : Int) = x at hx0 hx1 hx2 hq0
        obtain ⟨t0, t1, t2⟩ := x
        dsimp only at hx0 hx1 hx2
        have HC := Lib.hid (HPH.out (wr.alloc (.cells #[.int .i64 t0, .int .i64 t1, .int .i64 t2] 26)) ⟨t0, t1, t2⟩ (HG.out.trans (World.grownBy_alloc wr _ (some g))))
        cases hq : p ⟨t0, t1, t2⟩ with
        | true =>
          have HQ := Lib.hid hq
          have hcall := HC.out
          rw [hq] at hcall
          dsimp only [agg26] at hcall
          clear hq HC
          go_wp2_with (go_at_fn fn; refine hcall.mono ?_; rintro e w2 ⟨rfl, hb2⟩)
          go_roundg (n - (j + 1))
          case measure => omega
          case rel => exact ⟨i, j + 1, dk, rfl, by go_num, by omega, Nat.le_refl _, ⟨wo_skip HD.out hq0.out HQ.out⟩, ⟨Kd.R_below (Kd.R_alloc HO.out _) hb2⟩, ⟨(HG.out.trans (World.grownBy_alloc wr _ (some g))).trans (grown_of_below hb2 _)⟩, ⟨below_then (HB.out.alloc HB.out.size _) (by have := HB.out.size; simp; omega) hb2⟩⟩
        | false =>
          have HQ := Lib.hid hq
          have hcall := HC.out
          rw [hq] at hcall
          dsimp only [agg26] at hcall
          clear hq HC
          have hsto := fun w2 (hb2 : Below (wr.alloc (.cells #[.int .i64 t0, .int .i64 t1, .int .i64 t2] 26)).heap.size (wr.alloc (.cells #[.int .i64 t0, .int .i64 t1, .int .i64 t2] 26)) w2) => wo_elem (Kd.R_below (Kd.R_alloc HO.out (.cells #[.int .i64 t0, .int .i64 t1, .int .i64 t2] 26)) hb2) i (by omega)
          have SH := Lib.hid hsto
          clear hsto
          have z0 : ∀ w2, Below (wr.alloc (.cells #[.int .i64 t0, .int .i64 t1, .int .i64 t2] 26)).heap.size (wr.alloc (.cells #[.int .i64 t0, .int .i64 t1, .int .i64 t2] 26)) w2 → w2.cell? ⟨wr.heap.size, 0, none⟩ = some (.int .i64 t0) ∧ w2.cell? ⟨wr.heap.size, 1, none⟩ = some (.int .i64 t1) ∧ w2.cell? ⟨wr.heap.size, 2, none⟩ = some (.int .i64 t2) :=
            fun w2 hb2 => ⟨(hb2.cell (p := ⟨wr.heap.size, 0, none⟩) (by simp)).trans (by simp [World.cell?_alloc_at]), (hb2.cell (p := ⟨wr.heap.size, 1, none⟩) (by simp)).trans (by simp [World.cell?_alloc_at]), (hb2.cell (p := ⟨wr.heap.size, 2, none⟩) (by simp)).trans (by simp [World.cell?_alloc_at])⟩
          have ZH := Lib.hid z0
          clear z0
          go_wp2_with (first | (go_at_fn fn; refine hcall.mono ?_; rintro e w2 ⟨rfl, hb2⟩; have HB2 := Lib.hid hb2; obtain ⟨z0, z1, z2⟩ := ZH.out _ hb2; obtain ⟨cc, hcl, hcc⟩ := SH.out _ hb2; have HCL := Lib.hid hcl; have HCC := Lib.hid hcc; clear hb2 hcl hcc) | (refine Kd.R_store k26 (w0 := w0) w0.heap.size rfl rfl 26 (.tmp 33) (.tmp 32) rfl 26 (i : Int) 0 dk ⟨t0, t1, t2⟩ (.agg #[.int .i64 t0, .int .i64 t1, .int .i64 t2]) [.int .i64 t0, .int .i64 t1, .int .i64 t2] cc ok (fun _ => False) rfl (by rfl) rfl rfl wo_info (by simp [Value.oneCell']) (Kd.R_below (Kd.R_alloc HO.out _) HB2.out) (by omega) (by omega) HCL.out HCC.out (Nat.le_refl _) ?hM (fun _ h_ => h_.elim) (below_then (HB.out.alloc HB.out.size _) (by have := HB.out.size; simp; omega) HB2.out) ?hk))
          case hM =>
            have e1 : List.take 0 cc ++ [.int .i64 t0, .int .i64 t1, .int .i64 t2] ++ List.drop (0 + [Value.int .i64 t0, .int .i64 t1, .int .i64 t2].length) cc = [.int .i64 t0, .int .i64 t1, .int .i64 t2] := by
              rw [List.drop_of_length_le (by rw [HCL.out]; exact Nat.le_refl _)]; rfl
            rw [e1]
            exact k26_mkM _ _ _ ⟨t0, t1, t2⟩
          case hk =>
            intro w3 hr3 hb3 hg3
            have HR3 := Aside0.mk hr3
            have HB3 := Aside0.mk hb3
            have HG3 := Aside0.mk hg3
            clear hr3 hb3 hg3 z0 z1 z2
            go_wp2
            go_roundg (n - (j + 1))
            case measure => omega
            case rel => exact ⟨i + 1, j + 1, dk.set i ⟨t0, t1, t2⟩, by go_num, by go_num, by omega, Nat.le_refl _, ⟨wo_keep HD.out HN.out hlt hq0.out HQ.out⟩, ⟨HR3.out⟩, ⟨((HG.out.trans (World.grownBy_alloc wr _ (some g))).trans (grown_of_below HB2.out _)).trans HG3.out⟩, ⟨HB3.out⟩⟩
      · have hltz : ¬ (j : Int) < (n : Int) := by omega
        obtain rfl : j = n := by omega
        have hil : i < j := hij
        obtain ⟨vs, hcl, hvl⟩ := wo_clearR HO.out hil
        have HVL := Lib.hid hvl
        obtain ⟨ti, hti, hts⟩ := wo_tinfo
        have hcut := cut_from (P := Try.prog) 23 26 .i64 hu1 hti 3 hts (some ⟨g, 0, none⟩) j c (i : Int) (by omega) (by omega)
        rw [if_neg (by rw [Int.toNat_natCast]; omega), Option.map_some, Int.toNat_natCast, add_plain] at hcut
        clear hvl hti hts
        go_wp2
        go_ret
        have hfr : dk.take i = ts.filter (fun x => !p x) := by rw [HD.out.front, List.take_of_length_le (by rw [HN.out]; exact Nat.le_refl _)]
        obtain ⟨hnc2, _, _⟩ := wo_block HO.out
        obtain ⟨hR, hG⟩ := wo_tail (Kd.R_take HO.out (by rw [hlen.out]; omega : i ≤ dk.length)) (o := i * 3) vs (Nat.le_refl _) (by
          rw [HVL.out]
          show i * 3 + (j - i) * 3 ≤ c * 3
          omega)
        rw [hfr] at hR
        exact ⟨_, rfl, hR, HB.out.trans ⟨hG.os, hG.tape, hG.output, hG.size, fun k hk => (setCells_far vs _ k (by omega))⟩⟩

def lex_without.f (k : Nat) (a0 : ByteArray) (a1 : List Int) : Option (List S26) := (lex_Scan.f k a0).bind fun ts => some (ts.filter fun x => !(a1.contains x.f0))
theorem lex_without.mono : ∀ a0 a1 k, LeO (lex_without.f k a0 a1) (lex_without.f (k + 1) a0 a1) := by
  intro a0 a1 k
  exact LeO.bind (lex_Scan.mono _ _) (fun _ => LeO.refl _)
/-- The closure: does the slice of kinds that it captured have this token's kind? -/
theorem wo_closure (x : S26) (B : Nat) (A : Option Addr) (c : Nat) (ks : List Int) (w : World) (hcell : w.cell? ⟨B, 0, none⟩ = some (.slice A ks.length c)) (hC : Kd.C (Kd.int .i64) w A ks.length ks) (hc : ks.length ≤ c) :
    Calls Try.prog 51 (#[agg26 x] ++ #[.pointer (some ⟨B, 0, none⟩)]) w fun e w' => e = .returned (.bool (ks.contains x.f0)) ∧ Below w.heap.size w w' := by
  have hBW : B < w.heap.size := World.block_lt_of_cell? w _ hcell
  have hne : B ≠ w.heap.size := by omega
  have hBB := Aside0.mk (below_alloc (Below.refl w.heap.size w) (.cells #[.int .i64 x.f0, .int .i64 x.f1, .int .i64 x.f2] 26))
  have HI := Lib.hid (slices_Contains_int_int.calls A c ks x.f0 (ks.contains x.f0) (w.alloc (.cells #[.int .i64 x.f0, .int .i64 x.f1, .int .i64 x.f2] 26)) (Kd.C_alloc hC _) hc rfl)
  clear hC hc
  show Calls Try.prog 51 #[.agg #[.int .i64 x.f0, .int .i64 x.f1, .int .i64 x.f2], .pointer (some ⟨B, 0, none⟩)] w _
  obtain ⟨t0, t1, t2⟩ := x
  dsimp only at HI hBB ⊢
  obtain ⟨q, hq⟩ : ∃ q, ks.contains t0 = q := ⟨_, rfl⟩
  rw [hq] at HI ⊢
  generalize ks.length = n at HI hcell
  clear hq
  have hu2 := Try.underlying26
  go_enter Try.func51, Try.ntmps51
  go_wp2_with fail
  refine HI.out.mono ?_
  rintro e w' ⟨rfl, ⟨nd, rfl⟩⟩
  go_wp2
  go_ret
  exact ⟨rfl, pw_below_drewN hBB.out _⟩
set_option maxHeartbeats 2000000 in
set_option maxRecDepth 100000 in
theorem lex_without.calls (k : Nat) (a0 : ByteArray) (A1 : Option Addr) (c1 : Nat) (l1 : List Int) (r : List S26) (w : World) (hr1 : Kd.C (Kd.int .i64) w A1 l1.length l1) (hc1 : l1.length ≤ c1) (h : lex_without.f k a0 l1 = some r) :
    Calls Try.prog 30 #[.string a0, .slice A1 l1.length c1] w fun e w' => ∃ v0_ : Value, e = .returned (v0_) ∧ Kd.R k26 26 w' w.heap.size (fun _ => True) v0_ r ∧ Below w.heap.size w w' := by
  obtain ⟨ts, hS, hr⟩ := Option.bind_eq_some_iff.mp h
  obtain rfl := Option.some.inj hr
  have HS := Aside0.mk hS
  have HC := Aside0.mk hr1
  have HK := Aside0.mk hc1
  clear h hr hS hr1 hc1
  have eg : ∀ args w, (callFunc 51 args).run Try.prog w = .ok (.enter 51 args) w := enters_of Try.func51 (by kernel_rfl) rfl
  have EG := Aside0.mk eg
  clear eg
  have hu26 := Try.underlying26
  obtain ⟨n, hn⟩ : ∃ n, l1.length = n := ⟨_, rfl⟩
  rw [hn]
  have HN := Lib.hid hn
  clear hn
  go_enter Try.func30, Try.ntmps30
  go_wp2_with fail
  refine (lex_Scan.calls k a0 ts _ HS.out).mono ?_
  rintro e w2 ⟨v0, rfl, ho, hb⟩
  have HO := Aside0.mk ho
  have HB := Aside0.mk hb
  clear ho hb
  have HD := Aside0.mk (wo_delete (fun x => l1.contains x.f0) 51 #[.pointer (some ⟨w.heap.size, 0, none⟩)] EG.out v0 ts _ w2 _ HO.out HB.out (fun W x hg => by
    have hlt : w.heap.size < w2.heap.size := Nat.lt_of_lt_of_le (by simp) HB.out.size
    have hne : some w.heap.size ≠ v0.ownBlock := fun e => by
      have := Kd.R_base HO.out _ e.symm
      simp at this
      omega
    have e1 : W.heap[w.heap.size]? = (w.alloc (.cells #[.slice A1 n c1] 48)).heap[w.heap.size]? := (hg.block _ hlt hne).trans (HB.out.block _ (by simp))
    refine wo_closure x w.heap.size A1 c1 l1 W ?_ ?_ HK.out
    · rw [HN.out]
      have e2 : W.cell? ⟨w.heap.size, 0, none⟩ = (w.alloc (.cells #[.slice A1 n c1] 48)).cell? ⟨w.heap.size, 0, none⟩ := by simp only [World.cell?, e1]
      rw [e2]
      simp [World.cell?_alloc_at]
    · refine Kd.C_below (Kd.C_alloc HC.out (.cells #[.slice A1 n c1] 48)) ⟨hg.os.trans HB.out.os, hg.tape.trans HB.out.tape, hg.output.trans HB.out.output, Nat.le_trans HB.out.size hg.size, fun i hi => ?_⟩
      refine (hg.block i (Nat.lt_of_lt_of_le hi HB.out.size) (fun e => ?_)).trans (HB.out.block i hi)
      have := Kd.R_base HO.out _ e.symm
      omega))
  go_wp2_with fail
  refine HD.out.mono ?_
  rintro e w3 ⟨v1, rfl, ho, hb⟩
  have HO2 := Aside0.mk ho
  have HB2 := Aside0.mk hb
  clear ho hb
  go_wp2
  go_ret
  exact ⟨_, rfl, Kd.R_mono (Kd.R_lower HO2.out (by simp)) (fun _ _ => trivial), below_then ((Below.refl _ _).alloc (Nat.le_refl _) _) (by simp) HB2.out⟩



/-! ### lex_Words: function 14 -/
def lex_Words.f (k : Nat) (a0 : ByteArray) : Option ((List (S26))) := (lex_without.f k a0 (([1, 2] : List Int))).bind fun t207 => (some t207)
theorem lex_Words.mono : ∀ a0 k, LeO (lex_Words.f k a0) (lex_Words.f (k + 1) a0) := by
  intro a0 k
  unfold lex_Words.f
  repeat' first
      | (with_reducible exact lex_without.mono _ _ _)
      | (with_reducible exact LeO.refl _)
      | (with_reducible exact LeO.none _)
      | (with_reducible refine LeO.ite ?_ ?_)
      | (with_reducible refine LeO.bind ?_ (fun _ => ?_))
      | exact lex_without.mono _ _ _
      | exact LeO.none _
      | refine LeO.ite ?_ ?_
      | refine LeO.bind ?_ (fun _ => ?_)
set_option maxHeartbeats 8000000 in
set_option maxRecDepth 100000 in
theorem lex_Words.calls (k : Nat) (a0 : ByteArray) (r : List (S26)) (w : World) (h : lex_Words.f k a0 = some r) :
    Calls Try.prog 14 #[.string a0] w fun e w' => ∃ v0_ : Value, e = .returned (v0_) ∧ Kd.R k26 26 w' w.heap.size (fun _ => True) v0_ r ∧ Below w.heap.size w w' := by
  have HB := Aside0.mk (Below.refl w.heap.size w)
  have H : ((lex_without.f k a0 (([1, 2] : List Int))).bind fun t207 => (some t207)) = some r := h
  clear h
  obtain ⟨y204, hy204⟩ : ∃ y_ : List Int, y_ = (([1, 2] : List Int)) := ⟨_, rfl⟩
  replace H : ((lex_without.f k a0 y204).bind fun t207 => (some t207)) = some r := by first | (rw [hy204]; with_reducible exact H) | (have H2_ := (Option.bind_some _ _).symm.trans H; rw [hy204]; with_reducible exact H2_) | (have H2_ := (Option.bind_some _ _).symm.trans H; with_reducible exact H2_) | with_reducible exact H | (rw [hy204]; exact H) | exact H
  have Ny204 := Aside0.mk hy204
  clear hy204
  replace H := Option.bind_eq_some_iff.mp H
  obtain ⟨t207, A20, H⟩ := H
  replace H : (some t207) = some r := H
  have A2 := Aside0.mk A20
  clear A20
  obtain rfl := Option.some.inj H
  go_enter Try.func14, Try.ntmps14
  go_wp2_with (first | ((with_reducible refine gate_dst (N := 4) rfl ?_); refine Kd.R_lit (Kd.int .i64) _ 3 ?hg (N := 4) ?hd (xs := ([1, 2] : List Int)) (inner := [.int .i64 1, .int .i64 2]) (ok := fun _ => True) (okp := fun _ => True) ?hr ?hp (fun _ hk => hk) trivial (Below.refl _ _) (Nat.le_refl _) (by simp) ?_; (case hd => rfl); (case hg => rfl); (case hr => first | (go_simp; done) | (go_simp; rfl)); (case hp => exact (Reps.one (show Kd.M (Kd.int .i64) _ _ _ 1 [.int .i64 1] from rfl) (Reps.one (show Kd.M (Kd.int .i64) _ _ _ 2 [.int .i64 2] from rfl) (Reps.none _ _)))); intro v205 w3 ho4 hb hg_ hnew_; clear hg_ hnew_; (first | rw [← Ny204.out] at ho4 | (simp only [Int.reduceToNat] at ho4; rw [← Ny204.out] at ho4)); have n0_ := Aside0.mk (Kd.R_lower ho4 (below_size (by repeat (first | (with_reducible first | exact HB.out | apply below_alloc | apply pw_below_drewN | apply below_drew1) | exact HB.out)))); have n1_ := Aside0.mk (below_step (by repeat (first | (with_reducible first | exact HB.out | apply below_alloc | apply pw_below_drewN | apply below_drew1) | exact HB.out)) hb); clear HB; have HO206 := n0_; have HB := n1_; clear n0_ n1_; clear hb ho4; obtain ⟨Ao5, co5, eo5⟩ := Kd.R_slice HO206.out; subst eo5) | ((with_reducible refine gate_callee (f := 30) rfl ?_); refine goesL_ (some 5) rfl rfl Try.func30 (by kernel_rfl) rfl #[.string a0, .slice Ao5 y204.length co5] rfl (by (try simp only [List.map_toArray, List.map_cons, List.map_nil]); first | done | rfl | (simp only [List.length_drop, List.length_take]; rfl)) ?_; (with_reducible refine (lex_without.calls k a0 _ _ y204 t207 _ ?side1 ?side2 A2.out).mono ?_); (case side1 => repeat (first | exact (Kd.R_reads' HO206.out).2.2 | (with_reducible refine Kd.C_alloc ?_ _) | (with_reducible refine Kd.C_drewN ?_ _) | (with_reducible refine Kd.C_drew ?_))); (case side2 => exact (Kd.R_reads' HO206.out).2.1); rintro e w6 ⟨v208, rfl, ho0, hb⟩; refine ⟨_, rfl, ?_⟩; have n0_ := Aside0.mk (Kd.R_below (by (with_reducible repeat (first | apply Kd.R_alloc | apply Kd.R_drewN | apply Kd.R_drew)); exact HO206.out) hb); have n1_ := Aside0.mk (Kd.R_lower ho0 (below_size (by repeat (first | (with_reducible first | exact HB.out | apply below_alloc | apply pw_below_drewN | apply below_drew1) | exact HB.out)))); have n2_ := Aside0.mk (below_step (by repeat (first | (with_reducible first | exact HB.out | apply below_alloc | apply pw_below_drewN | apply below_drew1) | exact HB.out)) hb); clear HO206; clear HB; have HO206 := n0_; have HO209 := n1_; have HB := n2_; clear n0_ n1_ n2_; (try clear hb); (try clear hb2); (try clear hk); (try clear hi); (try clear ho0)))
  go_ret
  exact ⟨_, by first | rfl | (simp [errW_none, errW_some] <;> rfl) | (simp [*, errW_none, errW_some] <;> rfl), by (with_reducible repeat (first | apply Kd.R_alloc | apply Kd.R_drewN | apply Kd.R_drew)); exact HO209.out, by repeat (first | (with_reducible first | exact HB.out | apply below_alloc | apply pw_below_drewN | apply below_drew1) | exact HB.out)⟩

/-! ### oriellaw05_LexParted: function 6 -/
def oriellaw05_LexParted.l : Nat → ByteArray → List S26 → List S26 → List S26 → Nat → Option Bool
  | 0, _, _, _, _, _ => none
  | k + 1, s, a, b, l, i => if i < l.length then
      (if i + 1 < a.length then (if (rd_T26 l i).f0 = (rd_T26 a i).f0 ∧ (rd_T26 l i).f1 = (rd_T26 a i).f1 ∧ (rd_T26 l i).f2 = (rd_T26 a i).f2 then oriellaw05_LexParted.l k s a b l (i + 1) else none)
      else (if i + 1 - a.length < b.length ∧ a.length ≤ i + 1 then
        (if (rd_T26 l i).f0 = (rd_T26 b (i + 1 - a.length : Nat)).f0 ∧ (rd_T26 l i).f1 = wrap64 (wrap64 ((rd_T26 b (i + 1 - a.length : Nat)).f1 + (s.size : Int)) + 1) ∧ (rd_T26 l i).f2 = wrap64 (wrap64 ((rd_T26 b (i + 1 - a.length : Nat)).f2 + (s.size : Int)) + 1) then oriellaw05_LexParted.l k s a b l (i + 1) else none) else none))
    else oriellaw05_alive.f k
def oriellaw05_LexParted.f (k : Nat) (s : ByteArray) (t : ByteArray) : Option (Bool) :=
  if (s.size : Int) > 2000 ∨ (t.size : Int) > 2000 then oriellaw05_alive.f k else
  (lex_First.f k s).bind fun e => if e.2 ≠ 0 then oriellaw05_alive.f k else
  (lex_Words.f k s).bind fun a => (lex_Words.f k t).bind fun b => (lex_Words.f k (s ++ (⟨#[10]⟩ : ByteArray) ++ t)).bind fun l =>
  if l.length = a.length + b.length - 1 ∧ 0 < a.length ∧ a.length + b.length < 1000000 then oriellaw05_LexParted.l k s a b l 0 else none
theorem oriellaw05_LexParted.mono_l : ∀ k, (∀ y0 y1 y2 y3 y4, LeO (oriellaw05_LexParted.l k y0 y1 y2 y3 y4) (oriellaw05_LexParted.l (k + 1) y0 y1 y2 y3 y4))
  | 0 => fun _ _ _ _ _ r h => by simp [oriellaw05_LexParted.l] at h
  | k + 1 => by
    have ih0 := oriellaw05_LexParted.mono_l k
    intro y0 y1 y2 y3 y4
    unfold oriellaw05_LexParted.l
    repeat' first
      | (with_reducible exact ih0 _ _ _ _ _)
      | (with_reducible exact LeO.refl _)
      | (with_reducible exact LeO.none _)
      | exact oriellaw05_alive.mono _
      | (with_reducible refine LeO.ite ?_ ?_)
      | (with_reducible refine LeO.bind ?_ (fun _ => ?_))
      | exact ih0 _ _ _ _ _
      | exact LeO.none _
      | refine LeO.ite ?_ ?_
      | refine LeO.bind ?_ (fun _ => ?_)
theorem oriellaw05_LexParted.mono : ∀ a0 a1 k, LeO (oriellaw05_LexParted.f k a0 a1) (oriellaw05_LexParted.f (k + 1) a0 a1) := by
  intro a0 a1 k
  unfold oriellaw05_LexParted.f
  exact LeO.ite (oriellaw05_alive.mono _) (LeO.bind (lex_First.mono _ _) (fun _ => LeO.ite (oriellaw05_alive.mono _) (LeO.bind (lex_Words.mono _ _) (fun _ => LeO.bind (lex_Words.mono _ _) (fun _ => LeO.bind (lex_Words.mono _ _) (fun _ => LeO.ite (oriellaw05_LexParted.mono_l _ _ _ _ _ _) (LeO.none _)))))))
theorem oriellaw05_LexParted.e0 (m n : Nat) : ((m : Int) + (n : Int) != (m : Int) + 1 + (n : Int) - 1) = false := by rw [bne_eq_false_iff_eq]; omega
theorem oriellaw05_LexParted.b0 (m n : Nat) (h : m + n < 1000000) : (m : Int) + (n : Int) ≤ 1000000 := by omega
theorem oriellaw05_LexParted.alive_way (k : Nat) (a0 a1 : ByteArray) (r : Bool) (w : World) (hc : (a0.size : Int) > 2000 ∨ (a1.size : Int) > 2000) (h : oriellaw05_alive.f k = some r) :
    Calls Try.prog 6 #[.string a0, .string a1] w fun e w' => e = .returned (.bool r) ∧ Below w.heap.size w w' := by
  have A3 := Aside0.mk h
  clear h
  by_cases c2 : (a0.size : Int) > 2000
  · have c2b0 : decide (2000 < (a0.size : Int)) = true := decide_eq_true c2
    have c2b1 : decide (2000 < a0.size) = true := decide_eq_true (by omega)
    clear c2 hc
    go_enter Try.func6, Try.ntmps6
    go_wp2_with fail
    refine (oriellaw05_alive.calls k r _ A3.out).mono ?_
    rintro e w' ⟨rfl, hb⟩
    have HB := Aside0.mk hb
    clear hb
    go_wp2
    go_ret
    exact ⟨rfl, HB.out⟩
  · have c3 : (a1.size : Int) > 2000 := by omega
    have c2b0 : decide (2000 < (a0.size : Int)) = false := decide_eq_false c2
    have c2b1 : decide (2000 < a0.size) = false := decide_eq_false (by omega)
    have c3b0 : decide (2000 < (a1.size : Int)) = true := decide_eq_true c3
    have c3b1 : decide (2000 < a1.size) = true := decide_eq_true (by omega)
    clear c2 c3 hc
    go_enter Try.func6, Try.ntmps6
    go_wp2_with fail
    refine (oriellaw05_alive.calls k r _ A3.out).mono ?_
    rintro e w' ⟨rfl, hb⟩
    have HB := Aside0.mk hb
    clear hb
    go_wp2
    go_ret
    exact ⟨rfl, HB.out⟩
set_option maxHeartbeats 4000000 in
set_option maxRecDepth 100000 in
theorem oriellaw05_LexParted.calls (k : Nat) (a0 : ByteArray) (a1 : ByteArray) (r : Bool) (w : World) (h : oriellaw05_LexParted.f k a0 a1 = some r) :
    Calls Try.prog 6 #[.string a0, .string a1] w fun e w' => e = .returned (.bool r) ∧ Below w.heap.size w w' := by
  have hu26 := Try.underlying26
  unfold oriellaw05_LexParted.f at h
  by_cases c2 : (a0.size : Int) > 2000 ∨ (a1.size : Int) > 2000
  · rw [if_pos c2] at h
    exact oriellaw05_LexParted.alive_way k a0 a1 r w c2 h
  · rw [if_neg c2] at h
    have hs0 : a0.size ≤ 2000 := by omega
    have hs1 : a1.size ≤ 2000 := by omega
    have c2b0 : decide (2000 < (a0.size : Int)) = false := decide_eq_false (by omega)
    have c2b1 : decide (2000 < a0.size) = false := decide_eq_false (by omega)
    have c3b0 : decide (2000 < (a1.size : Int)) = false := decide_eq_false (by omega)
    have c3b1 : decide (2000 < a1.size) = false := decide_eq_false (by omega)
    clear c2
    obtain ⟨⟨fa, fe⟩, hF, h⟩ := Option.bind_eq_some_iff.mp h
    have HF := Aside0.mk hF
    clear hF
    dsimp only at h
    by_cases ce : fe ≠ 0
    · rw [if_pos ce] at h
      have HA := Aside0.mk h
      have ce0 : (fe != 0) = true := bne_iff_ne.mpr ce
      clear h ce
      go_enter Try.func6, Try.ntmps6
      go_wp2_with fail
      refine (lex_First.calls k a0 fa fe _ HF.out).mono ?_
      rintro e w1 ⟨rfl, hb1⟩
      have HB1 := Aside0.mk hb1
      clear hb1
      go_wp2_with fail
      refine (oriellaw01_No.calls fe fe _ rfl).mono ?_
      rintro e w2 ⟨rfl, ⟨m1, rfl⟩⟩
      go_wp2_with fail
      refine (oriellaw05_alive.calls k r _ HA.out).mono ?_
      rintro e w' ⟨rfl, hb⟩
      have HB := Aside0.mk (below_then (pw_below_drewN HB1.out m1) HB1.out.size hb)
      clear hb
      go_wp2
      go_ret
      exact ⟨rfl, HB.out⟩
    · rw [if_neg ce] at h
      obtain rfl : fe = 0 := by omega
      clear ce
      obtain ⟨a, hW1, h⟩ := Option.bind_eq_some_iff.mp h
      obtain ⟨b, hW2, h⟩ := Option.bind_eq_some_iff.mp h
      obtain ⟨l, hW3, h⟩ := Option.bind_eq_some_iff.mp h
      have HW1 := Aside0.mk hW1
      have HW2 := Aside0.mk hW2
      have HW3 := Aside0.mk hW3
      clear hW1 hW2 hW3
      by_cases cl : l.length = a.length + b.length - 1 ∧ 0 < a.length ∧ a.length + b.length < 1000000
      · rw [if_pos cl] at h
        have HH := Aside0.mk h
        clear h
        obtain ⟨cl1, cl2, cl3⟩ := cl
        obtain ⟨m, hm⟩ : ∃ m, a.length = m + 1 := ⟨a.length - 1, by omega⟩
        obtain ⟨n, hn⟩ : ∃ n, b.length = n := ⟨_, rfl⟩
        have hl : l.length = m + n := by omega
        have hmn : m + n < 1000000 := by omega
        have HM := Lib.hid hm
        have HN := Lib.hid hn
        have HL := Lib.hid hl
        clear cl1 cl2 cl3 hm hn hl
        have z1 : (a0 ++ (⟨#[10]⟩ : ByteArray)).size = a0.size + 1 := by rw [ByteArray.size_append]; rfl
        have Z1 := Lib.hid z1
        clear z1
        have y1 : a0.size + 1 ≤ 9223372036854775807 := by omega
        have y2 : a0.size + 1 + a1.size ≤ 9223372036854775807 := by omega
        have y1f : (9223372036854775807 < a0.size + 1) = False := eq_false (by omega)
        have y2f : (9223372036854775807 < a0.size + 1 + a1.size) = False := eq_false (by omega)
        go_enter Try.func6, Try.ntmps6
        go_wp2_with fail
        refine (lex_First.calls k a0 fa 0 _ HF.out).mono ?_
        rintro e w1 ⟨rfl, hb1⟩
        have HB1 := Aside0.mk hb1
        clear hb1
        go_wp2_with fail
        refine (oriellaw01_No.calls 0 0 _ rfl).mono ?_
        rintro e w2 ⟨rfl, ⟨m1, rfl⟩⟩
        go_wp2_with fail
        refine (lex_Words.calls k a0 a _ HW1.out).mono ?_
        rintro e w3 ⟨va, rfl, hoa, hba⟩
        have HB3 := Aside0.mk (below_then (pw_below_drewN HB1.out m1) HB1.out.size hba)
        have HA3 := Aside0.mk (Kd.R_mono (Kd.R_lower hoa HB1.out.size) (fun _ _ => trivial))
        clear hoa hba
        go_wp2_with fail
        refine (lex_Words.calls k a1 b _ HW2.out).mono ?_
        rintro e w4 ⟨vb, rfl, hob, hbb⟩
        have HB4 := Aside0.mk (below_then HB3.out HB3.out.size hbb)
        have HA4 := Aside0.mk (Kd.R_below HA3.out hbb)
        have HO4 := Aside0.mk (Kd.R_lower hob HB3.out.size)
        clear hob hbb
        go_wp2_with fail
        refine (lex_Words.calls k _ l _ HW3.out).mono ?_
        rintro e w5 ⟨vl, rfl, hol, hbl⟩
        have HB5 := Aside0.mk (below_then HB4.out HB4.out.size hbl)
        have HA5 := Aside0.mk (Kd.R_below HA4.out hbl)
        have HO5 := Aside0.mk (Kd.R_below HO4.out hbl)
        have HL5 := Aside0.mk (Kd.R_lower hol HB4.out.size)
        clear hol hbl
        obtain ⟨Aa, ca, rfl⟩ := Kd.R_slice HA5.out
        obtain ⟨Ab, cb, rfl⟩ := Kd.R_slice HO5.out
        obtain ⟨Al, cl, rfl⟩ := Kd.R_slice HL5.out
        have hca := (Kd.R_reads' HA5.out).2.1
        have hcb := (Kd.R_reads' HO5.out).2.1
        have hcl := (Kd.R_reads' HL5.out).2.1
        have HC5a := Aside0.mk (Kd.R_reads' HA5.out).2.2
        have HC5b := Aside0.mk (Kd.R_reads' HO5.out).2.2
        have HC5l := Aside0.mk (Kd.R_reads' HL5.out).2.2
        clear HA3 HA4 HO4 HL5 HA5 HO5 HB1 HB3 HB4 HF HW1 HW2 HW3
        rw [HM.out] at hca ⊢
        rw [HN.out] at hcb ⊢
        rw [HL.out] at hcl ⊢
        have e0 := oriellaw05_LexParted.e0 m n
        have b0 : (m : Int) + (n : Int) ≤ 1000000 := oriellaw05_LexParted.b0 m n hmn
        go_wp2
        go_loopg [10, 51] k (fun kq _ v51 wr => ∃ (i : Nat), v51 = .int .i64 i ∧ i ≤ m + n ∧ Aside0 (oriellaw05_LexParted.l kq a0 a b l i = some r) ∧ Aside0 (Kd.C k26 wr Aa a.length a) ∧ Aside0 (Kd.C k26 wr Ab b.length b) ∧ Aside0 (Kd.C k26 wr Al l.length l) ∧ Aside0 (Below w.heap.size w wr))
        case atStart => exact ⟨0, rfl, Nat.zero_le _, HH, HC5a, HC5b, HC5l, HB5⟩
        case round =>
          clear HH HC5a HC5b HC5l HB5 e0 y1 y2 y1f y2f Z1 c2b0 c2b1 c3b0 c3b1
          obtain ⟨i, rfl, him, HX, HCa, HCb, HCl, HB⟩ := hrel
          cases gk with
          | zero => exact absurd HX.out (by simp [oriellaw05_LexParted.l])
          | succ k1 =>
            have H := HX.out
            clear HX
            simp only [oriellaw05_LexParted.l] at H
            by_cases hlt : i < m + n
            · rw [if_pos (by rw [HL.out]; exact hlt)] at H
              have hltz : (i : Int) < (m : Int) + (n : Int) := by omega
              obtain ⟨ad, ead, hx0, hx1, hx2⟩ := at_T26 HCl.out (i : Int) (by omega) (by rw [HL.out]; omega)
              rw [Int.toNat_natCast] at hx0 hx1 hx2
              generalize hx : rd_T26 l (i : Int) = x at *
              obtain ⟨t0, t1, t2⟩ := x
              dsimp only at *
              clear hx
              cases ead
              by_cases hc : i < m
              · rw [if_pos (by rw [HM.out]; omega)] at H
                have hcz : (i : Int) < (m : Int) := by omega
                have hcz2 : decide ((i : Int) < (m : Int) + 1 - 1) = true := decide_eq_true (by omega)
                obtain ⟨ad2, ead2, hy0, hy1, hy2⟩ := at_T26 (Kd.C_alloc HCa.out (.cells #[.int .i64 t0, .int .i64 t1, .int .i64 t2] 26)) (i : Int) (by omega) (by rw [HM.out]; omega)
                rw [Int.toNat_natCast] at hy0 hy1 hy2
                generalize hy : rd_T26 a (i : Int) = y at *
                obtain ⟨s0, s1, s2⟩ := y
                dsimp only at *
                clear hy
                cases ead2
                by_cases hq : t0 = s0 ∧ t1 = s1 ∧ t2 = s2
                · rw [if_pos hq] at H
                  obtain ⟨rfl, rfl, rfl⟩ := hq
                  have HX := Aside0.mk H
                  clear H
                  have hik : (i : Int) < (m : Int) + 1 := by omega
                  go_wp2_with fail
                  go_quiet (fail)
                  go_wp2
                  go_roundg k1
                  case measure => omega
                  case rel => exact ⟨i + 1, by go_num, by omega, HX, ⟨Kd.C_drewN (Kd.C_alloc HCa.out _) _⟩, ⟨Kd.C_drewN (Kd.C_alloc HCb.out _) _⟩, ⟨Kd.C_drewN (Kd.C_alloc HCl.out _) _⟩, ⟨pw_below_drewN (HB.out.alloc HB.out.size _) _⟩⟩
                · rw [if_neg hq] at H
                  cases H
              · rw [if_neg (by rw [HM.out]; omega), HM.out, HN.out] at H
                have hcz2 : decide ((i : Int) < (m : Int) + 1 - 1) = false := decide_eq_false (by omega)
                have hcz3 : ¬ (i : Int) < (m : Int) := by omega
                obtain ⟨j, hij⟩ : ∃ j, i = m + j := ⟨i - m, by omega⟩
                rw [show i + 1 - (m + 1) = j by omega] at H
                have hidx : (i : Int) - ((m : Int) + 1) + 1 = (j : Int) := by omega
                by_cases hjn : j < n ∧ m + 1 ≤ i + 1
                · rw [if_pos hjn] at H
                  obtain ⟨hj, _⟩ := hjn
                  obtain ⟨ad2, ead2, hy0, hy1, hy2⟩ := at_T26 (Kd.C_alloc HCb.out (.cells #[.int .i64 t0, .int .i64 t1, .int .i64 t2] 26)) (j : Int) (by omega) (by rw [HN.out]; omega)
                  rw [Int.toNat_natCast] at hy0 hy1 hy2
                  generalize hy : rd_T26 b (j : Int) = y at *
                  obtain ⟨s0, s1, s2⟩ := y
                  dsimp only at *
                  clear hy
                  cases ead2
                  by_cases hq : t0 = s0 ∧ t1 = wrap64 (wrap64 (s1 + (a0.size : Int)) + 1) ∧ t2 = wrap64 (wrap64 (s2 + (a0.size : Int)) + 1)
                  · rw [if_pos hq] at H
                    obtain ⟨q0, q1, q2⟩ := hq
                    subst q0
                    have d1 := bne_eq_false_iff_eq.2 q1
                    have d2 := bne_eq_false_iff_eq.2 q2
                    have HX := Aside0.mk H
                    have hjz : (j : Int) < (n : Int) := by omega
                    have hjz2 : (j : Int) + 1 ≤ (n : Int) := by omega
                    have HIJ := Lib.hid hij
                    clear H q1 q2 hij
                    go_wp2
                    go_roundg k1
                    case measure => omega
                    case rel => exact ⟨i + 1, by go_num, by omega, HX, ⟨Kd.C_alloc (Kd.C_alloc HCa.out _) _⟩, ⟨Kd.C_alloc (Kd.C_alloc HCb.out _) _⟩, ⟨Kd.C_alloc (Kd.C_alloc HCl.out _) _⟩, ⟨(HB.out.alloc HB.out.size _).alloc (by have := HB.out.size; simp; omega) _⟩⟩
                  · rw [if_neg hq] at H
                    cases H
                · rw [if_neg hjn] at H
                  cases H
            · rw [if_neg (by rw [HL.out]; exact hlt)] at H
              have e : i = m + n := by omega
              subst e
              have hltz : ¬ ((m + n : Nat) : Int) < (m : Int) + (n : Int) := by omega
              have A3 := Aside0.mk H
              clear H
              go_wp2_with fail
              refine (oriellaw05_alive.calls k1 r _ A3.out).mono ?_
              rintro e w' ⟨rfl, hb⟩
              have HB2 := Aside0.mk (HB.out.trans (hb.mono HB.out.size))
              clear hb HB
              go_wp2
              go_ret
              exact ⟨rfl, HB2.out⟩
      · rw [if_neg cl] at h
        cases h


/-- THE ONE PURE STATEMENT of oriellaw05_LexParted: yours. -/
def oriellaw05_LexParted.Pure : Prop := ∀ (a0 : ByteArray) (a1 : ByteArray), a0.size ≤ 140737488351232 → a1.size ≤ 140737488351232 → ∃ k, oriellaw05_LexParted.f k a0 a1 = some true
theorem oriellaw05_LexParted.walk (P : oriellaw05_LexParted.Pure) (a0 : ByteArray) (a1 : ByteArray) (w : World) (w0 : a0.size ≤ 140737488351232) (w1 : a1.size ≤ 140737488351232) :
    Calls Try.prog 6 #[.string a0, .string a1] w fun e w' => e = .returned (.bool true) ∧ Below w.heap.size w w' := by
  obtain ⟨k, h⟩ := P a0 a1 w0 w1
  refine (oriellaw05_LexParted.calls k a0 a1 true w h).mono ?_
  rintro e w' ⟨rfl, hd⟩
  exact ⟨rfl, hd⟩

end Go.Proofs.Ytcccambfcedakaa.QA
