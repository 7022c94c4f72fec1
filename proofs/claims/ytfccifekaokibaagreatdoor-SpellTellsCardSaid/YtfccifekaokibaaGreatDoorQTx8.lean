-- Laid by this claim's own program (mprint.py in the repo).
import Derived.Test.YtfccifekaokibaaGreatDoorQTx0
import Derived.Test.YtfccifekaokibaaGreatDoorQTx7
namespace Go.Proofs.YtfccifekaokibaaGreatDoor.QT
open Go.RowKit Go.Proofs.YtfccifekaokibaaGreatDoorW.PrintWords Go.Proofs.YtfccifekaokibaaGreatDoorW.PrintLast Go.Proofs.YtfccifekaokibaaGreatDoorW.PrintMore
attribute [local go_sem] max2_int min2_int max_two min_two max_three min_three max_four min_four   -- for this text's walks alone
set_option linter.unusedVariables false
set_option linter.unusedSimpArgs false

/-! ### lex_Names: function 42 -/
theorem wo_nat (xs : List S51) (i : Nat) : rd_T51 xs (i : Int) = xs.getD i z51 := rfl
def woidx (p : S51 → Bool) (ts : List S51) : Int := match ts.findIdx? p with | some i => (i : Int) | none => -1
theorem woidx_hit (p : S51 → Bool) (ts : List S51) (i : Nat) (hi : i < ts.length) (h : p (ts.getD i z51) = true) (hb : ∀ j, j < i → p (ts.getD j z51) = false) : woidx p ts = (i : Int) := by
 have : ts.findIdx? p = some i := by
  rw [List.findIdx?_eq_some_iff_getElem]
  refine ⟨hi, by simpa [List.getD_eq_getElem?_getD, hi] using h, fun j hj => ?_⟩
  have := hb j hj
  simpa [List.getD_eq_getElem?_getD, Nat.lt_trans hj hi] using this
 simp [woidx, this]
theorem woidx_miss (p : S51 → Bool) (ts : List S51) (hb : ∀ j, j < ts.length → p (ts.getD j z51) = false) : woidx p ts = -1 := by
 have : ts.findIdx? p = none := by
  rw [List.findIdx?_eq_none_iff]
  intro x hx
  obtain ⟨j, hj, rfl⟩ := List.getElem_of_mem hx
  have := hb j hj
  simpa [List.getD_eq_getElem?_getD, hj] using this
 simp [woidx, this]
def agg51 (x : S51) : Value := .agg #[.int .i64 x.f0, .int .i64 x.f1, .int .i64 x.f2]
set_option maxHeartbeats 2000000 in
set_option maxRecDepth 100000 in
theorem wo_index (p : S51 → Bool) (fn : Nat) (lb : Array Value) (eg : ∀ args w, (callFunc fn args).run Tryz.prog w = .ok (.enter fn args) w) (A : Option Addr) (c : Nat) (ts : List S51) (w : World)
  (hC : Kd.C k51 w A ts.length ts) (hc : ts.length ≤ c)
  (HP : ∀ W x, Below w.heap.size w W → Calls Tryz.prog fn (#[agg51 x] ++ lb) W fun e w' => e = .returned (.bool (p x)) ∧ Below W.heap.size W w') :
  Calls Tryz.prog 69 #[.slice A ts.length c, .func (.func fn) #[] lb] w fun e w' => e = .returned (.int .i64 (woidx p ts)) ∧ Below w.heap.size w w' := by
 have hmax := Kd.C_max hC
 have hu26 := Tryz.underlying51
 have HC := Lib.hid hC
 have HPH := Lib.hid HP
 clear hC HP
 obtain ⟨n, hn⟩ : ∃ n, ts.length = n := ⟨_, rfl⟩
 rw [hn] at hmax hc ⊢
 have HN := Lib.hid hn
 clear hn
 go_enter Tryz.func69, Tryz.ntmps69
 go_wp2
 go_loopg [5, 8] n (fun gg _ s8 wr => ∃ kk : Nat, kk ≤ n ∧ n - kk ≤ gg ∧ s8 = .int .i64 kk ∧ Aside0 (Below w.heap.size w wr) ∧ Aside0 (∀ j, j < kk → p (ts.getD j z51) = false))
 case atStart => exact ⟨0, Nat.zero_le _, by omega, rfl, ⟨Below.refl _ w⟩, ⟨fun j hj => absurd hj (Nat.not_lt_zero _)⟩⟩
 case round =>
  obtain ⟨kk, hkk, hg, rfl, BW, HA⟩ := hrel
  by_cases hlt : kk < n
  ·have hltz : (kk : Int) < (n : Int) := by omega
   obtain ⟨ad, ead, hx0, hx1, hx2⟩ := at_T51 (Kd.C_below HC.out BW.out) (kk : Int) (by omega) (by rw [HN.out]; omega)
   rw [Int.toNat_natCast] at hx0 hx1 hx2
   have hcall := HPH.out wr (rd_T51 ts (kk : Int)) BW.out
   have hq0 : Hid (rd_T51 ts (kk : Int) = ts.getD kk z51) := Lib.hid (wo_nat ts kk)
   generalize rd_T51 ts (kk : Int) = x at hx0 hx1 hx2 hcall hq0
   obtain ⟨t0, t1, t2⟩ := x
   dsimp only [agg51] at *
   cases ead
   cases hq : p ⟨t0, t1, t2⟩ with
   | true =>
    have HQ := Lib.hid hq
    rw [hq] at hcall
    clear hq
    go_wp2_with (go_at_fn fn; refine hcall.mono ?_; rintro e w' ⟨rfl, hb'⟩)
    go_ret
    refine ⟨?_, (BW.out).trans (hb'.mono BW.out.size)⟩
    rw [woidx_hit p ts kk (by rw [HN.out]; exact hlt) (by rw [← hq0.out]; exact HQ.out) HA.out]; rfl
   | false =>
    have HQ := Lib.hid hq
    rw [hq] at hcall
    clear hq
    go_wp2_with (go_at_fn fn; refine hcall.mono ?_; rintro e w' ⟨rfl, hb'⟩)
    go_roundg (n - (kk + 1))
    case measure => omega
    case rel =>
     refine ⟨kk + 1, by omega, by omega, by go_num, ⟨(BW.out).trans (hb'.mono BW.out.size)⟩, ⟨fun j hj => ?_⟩⟩
     by_cases e : j = kk
     ·subst e
      rw [← hq0.out]; exact HQ.out
     ·exact HA.out j (by omega)
  ·have hltz : ¬ (kk : Int) < (n : Int) := by omega
   have : kk = n := by omega
   subst this
   go_wp2
   go_ret
   refine ⟨?_, BW.out⟩
   rw [woidx_miss p ts (by rw [HN.out]; exact HA.out)]; rfl
theorem wo_clear {P : Program} (w : World) (t e ty : TypeId) (z : Value) (ht : P.underlying t = some (.slice e)) (hv : ∀ w, (zeroValue e).run P w = .ok z w) (h1 : ∀ u ∈ z.cells.toList, u.oneCell' = true) (hz : 0 < z.cells.size) (b o n c : Nat) (hn : 0 < n)
  (hc : ∀ j, j < n * z.cells.size → (w.cell? ⟨b, o + j, none⟩).isSome = true) (hf : ∀ j, j < n * z.cells.size → w.frozen? ⟨b, o + j, none⟩ = false) :
  (Builtin.clear_ #[t] ty #[.slice (some ⟨b, o, none⟩) n c]).run P w = .ok (.tuple #[]) (w.setCells b o (Builtin.zeroCells z.cells n).toList) ∧ (Builtin.zeroCells z.cells n).toList.length = n * z.cells.size := by
 have hl : (Builtin.zeroCells z.cells n).toList.length = n * z.cells.size := by simp [Builtin.zeroCells]
 have hst := run_storeCells_cells (P := P) b o (Builtin.zeroCells z.cells n).toList 0 w (by simpa [hl] using hc) (by simpa [hl] using hf) (by
  intro v hv'
  simp only [Builtin.zeroCells, Array.toList_map, Array.toList_range, List.mem_map, List.mem_range] at hv'
  obtain ⟨i, _, rfl⟩ := hv'
  refine h1 _ ?_
  have : i % z.cells.size < z.cells.size := Nat.mod_lt _ hz
  simp [this])
 simp only [Nat.add_zero] at hst
 obtain ⟨m, rfl⟩ : ∃ m, n = m + 1 := ⟨n - 1, by omega⟩
 refine ⟨?_, hl⟩
 simp [Builtin.clear_, run_underlying ht, hv, hst]

theorem wo_tail {α : Type} {d : Kd α} {e base g m cap o : Nat} {ok : Nat → Prop} {w : World} {xs : List α} (h : d.R e w base ok (.slice (some ⟨g, 0, none⟩) m cap) xs) (vs : List Value) (ho : m * d.sz ≤ o) (hl : o + vs.length ≤ cap * d.sz) :
  d.R e (w.setCells g o vs) base ok (.slice (some ⟨g, 0, none⟩) m cap) xs ∧ w.grownBy (w.setCells g o vs) (some g) := by
 obtain ⟨h0, inner, hown, hr⟩ := h
 have hm := (Kd.R_reads' (d := d) (e := e) (w := w) (base := base) (ok := ok) ⟨h0, inner, hown, hr⟩).1
 obtain ⟨h1, h2⟩ := hown
 rcases h2 with ⟨hv, _⟩ | ⟨g', cap', cur, hv, hb, hh, hnc, hcm, hcs, htk⟩
 ·cases hv
 ·obtain ⟨rfl, rfl⟩ : g = g' ∧ cap = cap' := by
   injection hv with ha _ hc
   injection ha with ha
   injection ha with hg'
   exact ⟨hg', hc⟩
  obtain ⟨cur', hh', hs', ht'⟩ := setCells_row vs o w cur hh (by rw [hcs]; exact hl)
  obtain ⟨s1, s2, s3, s4⟩ := setCells_same g vs o w
  refine ⟨⟨h0, inner, ⟨h1, .inr ⟨g, cap, cur', by rw [hm], hb, hh', hnc, hcm, by rw [hs', hcs], ?_⟩⟩, hr.imp_ (fun p c hp => d.M_move (fun k hk => setCells_far vs o k ?_) hp)⟩, ?_⟩
  ·have hcl : cur.toList.length = cap * d.sz := by rw [Array.length_toList, hcs]
   rw [ht', ← htk, List.append_assoc, List.take_append_of_le_length (by rw [List.length_take, hcl, ← hm]; omega), List.take_take, Nat.min_eq_left (by rw [← hm]; exact ho)]
  ·intro he
   subst he
   exact hk.2 (by simp [Value.ownBlock])
  ·exact ⟨s1, s2, s3, Nat.le_of_eq s4.symm, fun k hk hne => setCells_far vs o k (fun he => hne (by rw [he]))⟩
theorem wo_elem {w : World} {base g n cap : Nat} {ok : Nat → Prop} {xs : List S51} (h : Kd.R k51 51 w base ok (.slice (some ⟨g, 0, none⟩) n cap) xs) (i : Nat) (hi : i < n) :
  ∃ c : List Value, c.length = k51.sz ∧ ∀ j u, c[j]? = some u → w.cell? ⟨g, (i : Int).toNat * k51.sz + j, none⟩ = some u := by
 obtain ⟨hn, _, hC⟩ := Kd.R_reads' h
 obtain ⟨ad, c, e, hl, hK, hc⟩ := Kd.C_get hC z51 (i : Int) (by omega) (by omega)
 cases e
 refine ⟨c, hl, fun j u hj => ?_⟩
 have := hc j u hj
 rwa [add_plain] at this
theorem wo_info : (Tryz.prog.info? 51).map (·.size) = some 3 := by kernel_rfl
theorem wo_zero : ∀ w : World, (zeroValue 51).run Tryz.prog w = .ok (.agg #[.int .i64 0, .int .i64 0, .int .i64 0]) w := fun w => by kernel_rfl
theorem wo_tinfo : ∃ i, Tryz.prog.info? 51 = some i ∧ i.size = 3 := by
 obtain ⟨i, hi, h⟩ := Option.map_eq_some_iff.1 wo_info
 exact ⟨i, hi, h⟩
theorem wo_block {w : World} {base g n cap : Nat} {ok : Nat → Prop} {xs : List S51} (h : Kd.R k51 51 w base ok (.slice (some ⟨g, 0, none⟩) n cap) xs) :
  n ≤ cap ∧ cap ≤ maxLen ∧ ∃ cur : Array Value, w.heap[g]? = some (.cells cur 51 (0, 0)) ∧ cur.size = cap * 3 := by
 obtain ⟨_, inner, ⟨_, h2⟩, _⟩ := h
 rcases h2 with ⟨hv, _⟩ | ⟨g', cap', cur, hv, hb, hh, hnc, hcm, hcs, htk⟩
 ·cases hv
 ·obtain ⟨rfl, hn, rfl⟩ : g = g' ∧ n = xs.length ∧ cap = cap' := by
   injection hv with ha hn hc
   injection ha with ha
   injection ha with hg'
   exact ⟨hg', hn, hc⟩
  exact ⟨by omega, hcm, cur, hh, hcs⟩
theorem wo_clearR {w : World} {base g n i cap : Nat} {ok : Nat → Prop} {xs : List S51} (h : Kd.R k51 51 w base ok (.slice (some ⟨g, 0, none⟩) n cap) xs) (hi : i < n) :
  ∃ vs : List Value, (∀ ty, (Builtin.clear_ #[48] ty #[.slice (some ⟨g, i * 3, none⟩) (n - i) (cap - i)]).run Tryz.prog w = .ok (.tuple #[]) (w.setCells g (i * 3) vs)) ∧ vs.length = (n - i) * 3 := by
 obtain ⟨hnc, _, cur, hh, hs⟩ := wo_block h
 have hm : ∀ ty, _ := fun ty => wo_clear (P := Tryz.prog) w 48 51 ty (.agg #[.int .i64 0, .int .i64 0, .int .i64 0]) Tryz.underlying48 wo_zero (by simp [Value.cells, Value.oneCell']) (by simp [Value.cells]) g (i * 3) (n - i) (cap - i) (by omega)
  (fun j hj => by
   have hj : j < (n - i) * 3 := by simpa [Value.cells] using hj
   simp [World.cell?, hh]; omega)
  (fun j hj => blk_frozen hh _)
 exact ⟨_, fun ty => (hm ty).1, by have := (hm 0).2; simpa [Value.cells] using this⟩
structure DInv (p : S51 → Bool) (ts : List S51) (n i j : Nat) (dk : List S51) : Prop where
 len : dk.length = n
 lt : i < j
 front : dk.take i = (ts.take j).filter (fun x => !p x)
 back : dk.drop j = ts.drop j
theorem wo_keep {p : S51 → Bool} {ts dk : List S51} {n i j : Nat} (h : DInv p ts n i j dk) (ht : ts.length = n) (hj : j < n) {x : S51} (hx : ts[j]? = some x) (hp : p x = false) : DInv p ts n (i + 1) (j + 1) (dk.set i x) := by
 have hl := h.len; have hlt := h.lt
 refine ⟨by rw [List.length_set, hl], by omega, ?_, ?_⟩
 ·rw [List.take_add_one, List.getElem?_set_self (by omega), List.take_set_of_le (Nat.le_refl i), h.front, List.take_add_one, hx, List.filter_append]
  simp [hp]
 ·rw [List.drop_set_of_lt (by omega)]
  have := congrArg (List.drop 1) h.back
  rw [List.drop_drop, List.drop_drop] at this
  exact this
theorem wo_skip {p : S51 → Bool} {ts dk : List S51} {n i j : Nat} (h : DInv p ts n i j dk) {x : S51} (hx : ts[j]? = some x) (hp : p x = true) : DInv p ts n i (j + 1) dk := by
 refine ⟨h.len, by have := h.lt; omega, ?_, ?_⟩
 ·rw [h.front, List.take_add_one, hx, List.filter_append]
  simp [hp]
 ·have := congrArg (List.drop 1) h.back
  rw [List.drop_drop, List.drop_drop] at this
  exact this
theorem wo_start {p : S51 → Bool} {ts : List S51} {i : Nat} (h : woidx p ts = (i : Int)) : i < ts.length ∧ DInv p ts ts.length i (i + 1) ts := by
 unfold woidx at h
 cases hf : ts.findIdx? p with
 | none => rw [hf] at h; dsimp only at h; omega
 | some k =>
  rw [hf] at h
  obtain rfl : k = i := by dsimp only at h; omega
  rw [List.findIdx?_eq_some_iff_getElem] at hf
  obtain ⟨hk, h1, h2⟩ := hf
  refine ⟨hk, rfl, Nat.lt_succ_self _, ?_, rfl⟩
  rw [List.take_add_one, List.filter_append, List.getElem?_eq_getElem hk]
  have e1 : (ts.take k).filter (fun x => !p x) = ts.take k := by
   rw [List.filter_eq_self]
   intro x hx
   obtain ⟨j, hj, rfl⟩ := List.getElem_of_mem hx
   rw [List.length_take] at hj
   have := h2 j (by omega)
   simpa using this
  rw [e1]; simp [h1]
theorem wo_none {p : S51 → Bool} {ts : List S51} (h : woidx p ts = -1) : ts.filter (fun x => !p x) = ts := by
 unfold woidx at h
 cases hf : ts.findIdx? p with
 | some k => rw [hf] at h; dsimp only at h; omega
 | none =>
  rw [List.findIdx?_eq_none_iff] at hf
  rw [List.filter_eq_self]
  intro x hx
  simp [hf x hx]
theorem wo_cases (p : S51 → Bool) (ts : List S51) : woidx p ts = -1 ∨ ∃ i : Nat, woidx p ts = (i : Int) := by
 unfold woidx
 cases ts.findIdx? p with
 | none => exact .inl rfl
 | some k => exact .inr ⟨k, rfl⟩
set_option maxHeartbeats 4000000 in
set_option maxRecDepth 100000 in
theorem wo_delete (p : S51 → Bool) (fn : Nat) (lb : Array Value) (eg : ∀ args w, (callFunc fn args).run Tryz.prog w = .ok (.enter fn args) w) (v : Value) (ts : List S51) (w0 w : World) (ok : Nat → Prop)
  (HO : Kd.R k51 51 w w0.heap.size ok v ts) (HB : Below w0.heap.size w0 w)
  (HP : ∀ W x, w.grownBy W v.ownBlock → Calls Tryz.prog fn (#[agg51 x] ++ lb) W fun e w' => e = .returned (.bool (p x)) ∧ Below W.heap.size W w') :
  Calls Tryz.prog 57 #[v, .func (.func fn) #[] lb] w fun e w' => ∃ v1 : Value, e = .returned v1 ∧ Kd.R k51 51 w' w0.heap.size ok v1 (ts.filter (fun x => !p x)) ∧ Below w0.heap.size w0 w' := by
 have hu1 := Tryz.underlying48
 have hu2 := Tryz.underlying51
 obtain ⟨A, c, rfl⟩ := Kd.R_slice HO
 obtain ⟨_, hnc, hC⟩ := Kd.R_reads' HO
 have hmax := Kd.C_max hC
 have HI := wo_index p fn lb eg A c ts w hC hnc (fun W x hb => HP W x (grown_of_below hb _))
 have HO0 := Aside0.mk HO
 have HB0 := Aside0.mk HB
 have HPH := Lib.hid HP
 clear HO HB HP hC
 rcases wo_cases p ts with h1 | ⟨i0, h1⟩
 ·rw [h1] at HI
  have hf := Lib.hid (wo_none h1)
  clear h1
  go_enter Tryz.func57, Tryz.ntmps57
  go_wp2_with (go_at_call 69; refine HI.mono ?_; rintro e w1 ⟨rfl, hb⟩)
  go_ret
  exact ⟨_, rfl, by rw [hf.out]; exact Kd.R_below HO0.out hb, below_then HB0.out HB0.out.size hb⟩
 ·obtain ⟨hi0, hD⟩ := wo_start h1
  rw [h1] at HI
  have HD := Aside0.mk hD
  clear h1 hD
  obtain ⟨g, cap, hv, hbg, hgw, _⟩ := Kd.R_form HO0.out (by omega)
  injection hv with ha _ hcc
  subst ha
  subst hcc
  obtain ⟨n, hn⟩ : ∃ n, ts.length = n := ⟨_, rfl⟩
  rw [hn] at hmax hnc hi0 HD HO0 HI ⊢
  have HN := Lib.hid hn
  clear hn
  have hne1 : ((i0 : Int) == -1) = false := beq_eq_false_iff_ne.2 (by omega)
  go_enter Tryz.func57, Tryz.ntmps57
  go_wp2_with (go_at_call 69; refine HI.mono ?_; rintro e w1 ⟨rfl, hb⟩)
  go_loopg [5, 6, 7] n (fun gg s5 s6 _ wr => ∃ (i j : Nat) (dk : List S51), s5 = .int .i64 i ∧ s6 = .int .i64 j ∧ j ≤ n ∧ n - j ≤ gg ∧ Aside0 (DInv p ts n i j dk) ∧ Aside0 (Kd.R k51 51 wr w0.heap.size ok (.slice (some ⟨g, 0, none⟩) n c) dk) ∧ Aside0 (w.grownBy wr (some g)) ∧ Aside0 (Below w0.heap.size w0 wr))
  case atStart => exact ⟨i0, i0 + 1, ts, rfl, by go_num, by omega, by omega, HD, ⟨Kd.R_below HO0.out hb⟩, ⟨grown_of_below hb _⟩, ⟨below_then HB0.out HB0.out.size hb⟩⟩
  case round =>
   clear hb HI HO0 HB0 HD hne1
   obtain ⟨i, j, dk, rfl, rfl, hjn, hgg, HD, HO, HG, HB⟩ := hrel
   have hij := HD.out.lt
   have hlen := Lib.hid HD.out.len
   by_cases hlt : j < n
   ·have hltz : (j : Int) < (n : Int) := by omega
    obtain ⟨ad, ead, hx0, hx1, hx2⟩ := at_T51 (Kd.R_reads' HO.out).2.2 (j : Int) (by omega) (by rw [hlen.out]; omega)
    cases ead
    rw [Int.toNat_natCast, add_plain] at hx0 hx1 hx2
    dsimp only at hx1 hx2
    have hq0 : Hid (ts[j]? = some (rd_T51 dk (j : Int))) := by
     refine Lib.hid ?_
     have h2 := congrArg (fun l => l[0]?) HD.out.back
     simp only [List.getElem?_drop, Nat.add_zero] at h2
     rw [← h2]
     show _ = some (dk.getD j z51)
     rw [List.getD_eq_getElem?_getD, List.getElem?_eq_getElem (by rw [hlen.out]; exact hlt)]
     rfl
    generalize rd_T51 dk (j : Int) = x at hx0 hx1 hx2 hq0
    obtain ⟨t0, t1, t2⟩ := x
    dsimp only at hx0 hx1 hx2
    have HC := Lib.hid (HPH.out (wr.alloc (.cells #[.int .i64 t0, .int .i64 t1, .int .i64 t2] 51)) ⟨t0, t1, t2⟩ (HG.out.trans (World.grownBy_alloc wr _ (some g))))
    cases hq : p ⟨t0, t1, t2⟩ with
    | true =>
     have HQ := Lib.hid hq
     have hcall := HC.out
     rw [hq] at hcall
     dsimp only [agg51] at hcall
     clear hq HC
     go_wp2_with (go_at_fn fn; refine hcall.mono ?_; rintro e w2 ⟨rfl, hb2⟩)
     go_roundg (n - (j + 1))
     case measure => omega
     case rel => exact ⟨i, j + 1, dk, rfl, by go_num, by omega, Nat.le_refl _, ⟨wo_skip HD.out hq0.out HQ.out⟩, ⟨Kd.R_below (Kd.R_alloc HO.out _) hb2⟩, ⟨(HG.out.trans (World.grownBy_alloc wr _ (some g))).trans (grown_of_below hb2 _)⟩, ⟨below_then (HB.out.alloc HB.out.size _) (by have := HB.out.size; simp; omega) hb2⟩⟩
    | false =>
     have HQ := Lib.hid hq
     have hcall := HC.out
     rw [hq] at hcall
     dsimp only [agg51] at hcall
     clear hq HC
     have hsto := fun w2 (hb2 : Below (wr.alloc (.cells #[.int .i64 t0, .int .i64 t1, .int .i64 t2] 51)).heap.size (wr.alloc (.cells #[.int .i64 t0, .int .i64 t1, .int .i64 t2] 51)) w2) => wo_elem (Kd.R_below (Kd.R_alloc HO.out (.cells #[.int .i64 t0, .int .i64 t1, .int .i64 t2] 51)) hb2) i (by omega)
     have SH := Lib.hid hsto
     clear hsto
     have z0 : ∀ w2, Below (wr.alloc (.cells #[.int .i64 t0, .int .i64 t1, .int .i64 t2] 51)).heap.size (wr.alloc (.cells #[.int .i64 t0, .int .i64 t1, .int .i64 t2] 51)) w2 → w2.cell? ⟨wr.heap.size, 0, none⟩ = some (.int .i64 t0) ∧ w2.cell? ⟨wr.heap.size, 1, none⟩ = some (.int .i64 t1) ∧ w2.cell? ⟨wr.heap.size, 2, none⟩ = some (.int .i64 t2) :=
      fun w2 hb2 => ⟨(hb2.cell (p := ⟨wr.heap.size, 0, none⟩) (by simp)).trans (by simp [World.cell?_alloc_at]), (hb2.cell (p := ⟨wr.heap.size, 1, none⟩) (by simp)).trans (by simp [World.cell?_alloc_at]), (hb2.cell (p := ⟨wr.heap.size, 2, none⟩) (by simp)).trans (by simp [World.cell?_alloc_at])⟩
     have ZH := Lib.hid z0
     clear z0
     go_wp2_with (first | (go_at_fn fn; refine hcall.mono ?_; rintro e w2 ⟨rfl, hb2⟩; have HB2 := Lib.hid hb2; obtain ⟨z0, z1, z2⟩ := ZH.out _ hb2; obtain ⟨cc, hcl, hcc⟩ := SH.out _ hb2; have HCL := Lib.hid hcl; have HCC := Lib.hid hcc; clear hb2 hcl hcc) | (refine Kd.R_store k51 (w0 := w0) w0.heap.size rfl rfl 51 (.tmp 33) (.tmp 32) rfl 51 (i : Int) 0 dk ⟨t0, t1, t2⟩ (.agg #[.int .i64 t0, .int .i64 t1, .int .i64 t2]) [.int .i64 t0, .int .i64 t1, .int .i64 t2] cc ok (fun _ => False) rfl (by rfl) rfl rfl wo_info (by simp [Value.oneCell']) (Kd.R_below (Kd.R_alloc HO.out _) HB2.out) (by omega) (by omega) HCL.out HCC.out (Nat.le_refl _) ?hM (fun _ h_ => h_.elim) (below_then (HB.out.alloc HB.out.size _) (by have := HB.out.size; simp; omega) HB2.out) ?hk))
     case hM =>
      have e1 : List.take 0 cc ++ [.int .i64 t0, .int .i64 t1, .int .i64 t2] ++ List.drop (0 + [Value.int .i64 t0, .int .i64 t1, .int .i64 t2].length) cc = [.int .i64 t0, .int .i64 t1, .int .i64 t2] := by
       rw [List.drop_of_length_le (by rw [HCL.out]; exact Nat.le_refl _)]; rfl
      rw [e1]
      exact k51_mkM _ _ _ ⟨t0, t1, t2⟩
     case hk =>
      intro w3 hr3 hb3 hg3
      have HR3 := Aside0.mk hr3
      have HB3 := Aside0.mk hb3
      have HG3 := Aside0.mk hg3
      clear hr3 hb3 hg3 z0 z1 z2
      go_wp2
      go_roundg (n - (j + 1))
      case measure => omega
      case rel => exact ⟨i + 1, j + 1, dk.set i ⟨t0, t1, t2⟩, by go_num, by go_num, by omega, Nat.le_refl _, ⟨wo_keep HD.out HN.out hlt hq0.out HQ.out⟩, ⟨HR3.out⟩, ⟨((HG.out.trans (World.grownBy_alloc wr _ (some g))).trans (grown_of_below HB2.out _)).trans HG3.out⟩, ⟨HB3.out⟩⟩
   ·have hltz : ¬ (j : Int) < (n : Int) := by omega
    obtain rfl : j = n := by omega
    have hil : i < j := hij
    obtain ⟨vs, hcl, hvl⟩ := wo_clearR HO.out hil
    have HVL := Lib.hid hvl
    obtain ⟨ti, hti, hts⟩ := wo_tinfo
    have hcut := cut_from (P := Tryz.prog) 48 51 .i64 hu1 hti 3 hts (some ⟨g, 0, none⟩) j c (i : Int) (by omega) (by omega)
    rw [if_neg (by rw [Int.toNat_natCast]; omega), Option.map_some, Int.toNat_natCast, add_plain] at hcut
    clear hvl hti hts
    go_wp2
    go_ret
    have hfr : dk.take i = ts.filter (fun x => !p x) := by rw [HD.out.front, List.take_of_length_le (by rw [HN.out]; exact Nat.le_refl _)]
    obtain ⟨hnc2, _, _⟩ := wo_block HO.out
    obtain ⟨hR, hG⟩ := wo_tail (Kd.R_take HO.out (by rw [hlen.out]; omega : i ≤ dk.length)) (o := i * 3) vs (Nat.le_refl _) (by
     rw [HVL.out]
     show i * 3 + (j - i) * 3 ≤ c * 3
     omega)
    rw [hfr] at hR
    exact ⟨_, rfl, hR, HB.out.trans ⟨hG.os, hG.tape, hG.output, hG.size, fun k hk => (setCells_far vs _ k (by omega))⟩⟩

def lex_Names.no (x : S51) : Bool := !(x.f0 == 6) && (!(x.f0 == 7) && !(x.f0 == 9))
def lex_Names.f (k : Nat) (a0 : ByteArray) : Option (List S51) := (lex_Scan.f k a0).bind fun ts => some (ts.filter fun x => !(lex_Names.no x))
theorem lex_Names.mono : ∀ a0 k, LeO (lex_Names.f k a0) (lex_Names.f (k + 1) a0) := by
 intro a0 k
 exact LeO.bind (lex_Scan.mono _ _) (fun _ => LeO.refl _)
set_option maxHeartbeats 2000000 in
set_option maxRecDepth 100000 in
theorem na_closure (x : S51) (w : World) :
  Calls Tryz.prog 59 (#[agg51 x] ++ #[]) w fun e w' => e = .returned (.bool (lex_Names.no x)) ∧ Below w.heap.size w w' := by
 have HB := Aside0.mk (below_alloc (Below.refl w.heap.size w) (.cells #[.int .i64 x.f0, .int .i64 x.f1, .int .i64 x.f2] 51))
 show Calls Tryz.prog 59 #[.agg #[.int .i64 x.f0, .int .i64 x.f1, .int .i64 x.f2]] w _
 obtain ⟨t0, t1, t2⟩ := x
 dsimp only at HB ⊢
 have hu2 := Tryz.underlying51
 unfold lex_Names.no
 dsimp only
 by_cases h6 : t0 = 6
 ·subst h6
  go_enter Tryz.func59, Tryz.ntmps59
  go_wp2
  go_ret
  exact ⟨rfl, HB.out⟩
 ·have n6 : (t0 == 6) = false := beq_eq_false_iff_ne.2 h6
  have m6 : (t0 != 6) = true := by rw [bne, n6]; rfl
  by_cases h7 : t0 = 7
  ·subst h7
   go_enter Tryz.func59, Tryz.ntmps59
   go_wp2
   go_ret
   exact ⟨rfl, HB.out⟩
  ·have n7 : (t0 == 7) = false := beq_eq_false_iff_ne.2 h7
   have m7 : (t0 != 7) = true := by rw [bne, n7]; rfl
   by_cases h9 : t0 = 9
   ·subst h9
    go_enter Tryz.func59, Tryz.ntmps59
    go_wp2
    go_ret
    exact ⟨rfl, HB.out⟩
   ·have n9 : (t0 == 9) = false := beq_eq_false_iff_ne.2 h9
    have m9 : (t0 != 9) = true := by rw [bne, n9]; rfl
    rw [n6, n7, n9]
    go_enter Tryz.func59, Tryz.ntmps59
    go_wp2
    go_ret
    exact ⟨rfl, HB.out⟩
set_option maxHeartbeats 2000000 in
set_option maxRecDepth 100000 in
theorem lex_Names.calls (k : Nat) (a0 : ByteArray) (r : List S51) (w : World) (h : lex_Names.f k a0 = some r) :
  Calls Tryz.prog 42 #[.string a0] w fun e w' => ∃ v0_ : Value, e = .returned (v0_) ∧ Kd.R k51 51 w' w.heap.size (fun _ => True) v0_ r ∧ Below w.heap.size w w' := by
 obtain ⟨ts, hS, hr⟩ := Option.bind_eq_some_iff.mp h
 obtain rfl := Option.some.inj hr
 have HS := Aside0.mk hS
 clear h hr hS
 have eg : ∀ args w, (callFunc 59 args).run Tryz.prog w = .ok (.enter 59 args) w := enters_of Tryz.func59 (by kernel_rfl) rfl
 have EG := Aside0.mk eg
 clear eg
 go_enter Tryz.func42, Tryz.ntmps42
 go_wp2_with fail
 refine (lex_Scan.calls k a0 ts _ HS.out).mono ?_
 rintro e w2 ⟨v0, rfl, ho, hb⟩
 have HO := Aside0.mk ho
 have HB := Aside0.mk hb
 clear ho hb
 have HD := Aside0.mk (wo_delete (fun x => lex_Names.no x) 59 #[] EG.out v0 ts _ w2 _ HO.out HB.out (fun W x hg => na_closure x W))
 go_wp2_with fail
 refine HD.out.mono ?_
 rintro e w3 ⟨v1, rfl, ho, hb⟩
 have HO2 := Aside0.mk ho
 have HB2 := Aside0.mk hb
 clear ho hb
 go_wp2
 go_ret
 exact ⟨_, rfl, Kd.R_mono (Kd.R_lower HO2.out (by simp)) (fun _ _ => trivial), HB2.out⟩

end Go.Proofs.YtfccifekaokibaaGreatDoor.QT

