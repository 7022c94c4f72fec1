-- Laid by this claim's own program (mprint.py in the repo).
import Derived.Test.YtfccifekaokibaaGreatDoorQTx0
import Derived.Test.YtfccifekaokibaaGreatDoorQTx4
import Derived.Test.YtfccifekaokibaaGreatDoorQTx8
namespace Go.Proofs.YtfccifekaokibaaGreatDoor.QT
open Go.RowKit Go.Proofs.YtfccifekaokibaaGreatDoorW.PrintWords Go.Proofs.YtfccifekaokibaaGreatDoorW.PrintLast Go.Proofs.YtfccifekaokibaaGreatDoorW.PrintMore
attribute [local go_sem] max2_int min2_int max_two min_two max_three min_three max_four min_four   -- for this text's walks alone
set_option linter.unusedVariables false
set_option linter.unusedSimpArgs false

/-! ### spell_Taken: function 12 -/
/-! #### a map of rows of places, keyed by texts -/
def slR (v : Value) : Option (DataW Unit × List MemPlace) := match v with
 | .slice none n c => if n = 0 ∧ c = 0 then some (.nil, []) else none
 | .slice (some a) n c => if a = ⟨a.block, 0, none⟩ then some (.slice [.lit (.int .i64 a.block), .lit (.int .i64 n), .lit (.int .i64 c)] [], []) else none
 | _ => none
theorem slR_nil : slR (.slice none 0 0) = some (.nil, []) := by simp [slR]
theorem slR_some (g n c : Nat) : slR (.slice (some ⟨g, 0, none⟩) n c) = some (.slice [.lit (.int .i64 g), .lit (.int .i64 n), .lit (.int .i64 c)] [], []) := by simp [slR]
theorem slR_cases {v : Value} {y : DataW Unit × List MemPlace} (h : slR v = some y) : (v = .slice none 0 0 ∧ y = (.nil, [])) ∨ ∃ g n c : Nat, v = .slice (some ⟨g, 0, none⟩) n c ∧ y = (.slice [.lit (.int .i64 g), .lit (.int .i64 n), .lit (.int .i64 c)] [], []) := by
 unfold slR at h
 split at h
 ·split at h
  ·rename_i h0
   obtain ⟨rfl, rfl⟩ := h0
   exact .inl ⟨rfl, (Option.some.inj h).symm⟩
  ·cases h
 ·split at h
  ·rename_i a n c h0
   exact .inr ⟨a.block, n, c, by rw [← h0], (Option.some.inj h).symm⟩
  ·cases h
 ·cases h
theorem slR_inj {v u : Value} {d : DataW Unit} {ps qs : List MemPlace} (h : slR v = some (d, ps)) (h' : slR u = some (d, qs)) : v = u := by
 rcases slR_cases h with ⟨rfl, e⟩ | ⟨g, n, c, rfl, e⟩
 ·rcases slR_cases h' with ⟨rfl, e'⟩ | ⟨g', n', c', rfl, e'⟩
  ·rfl
  ·simp only [Prod.mk.injEq] at e e'
   rw [e.1] at e'
   exact absurd e'.1 (by simp)
 ·rcases slR_cases h' with ⟨rfl, e'⟩ | ⟨g', n', c', rfl, e'⟩
  ·simp only [Prod.mk.injEq] at e e'
   rw [e.1] at e'
   exact absurd e'.1 (by simp)
  ·simp only [Prod.mk.injEq] at e e'
   rw [e.1] at e'
   have := e'.1
   simp only [DataW.slice.injEq, List.cons.injEq, DataW.lit.injEq, Lit.int.injEq] at this
   obtain ⟨⟨⟨_, h1⟩, ⟨_, h2⟩, ⟨_, h3⟩, _⟩, _⟩ := this
   rw [Int.ofNat_inj.1 h1, Int.ofNat_inj.1 h2, Int.ofNat_inj.1 h3]
theorem slR_own {α : Type} {d : Kd α} {e base : Nat} {ok : Nat → Prop} {w : World} {v : Value} {xs : List α} (h : d.R e w base ok v xs) : ∃ y, slR v = some y := by
 obtain ⟨inner, _, h2⟩ := Kd.R_own h
 rcases h2 with ⟨rfl, _⟩ | ⟨g, cap, cur, rfl, _⟩
 ·exact ⟨_, slR_nil⟩
 ·exact ⟨_, slR_some _ _ _⟩
theorem gm_keyed : Maps.Keyed Tryz.prog 9 := Maps.string_keyed Tryz.underlying9
theorem gm_zero (w : World) : (zeroValue 28).run Tryz.prog w = .ok (.slice none 0 0) w := by kernel_rfl
structure GMp (w0 w : World) (b n : Nat) (D : DataW Unit) (V : List UInt8 → Value) (G : List UInt8 → List S32) : Prop where
 own : w.ownsMap Tryz.prog 9 slR b n D
 ism : Maps.IsMap D
 val : ∀ s, ∃ ps, slR (V s) = some (D.atKey (.string s) .nil, ps)
 has : ∀ s, Maps.has D (.string s) = true ↔ G s ≠ []
 base : w0.heap.size ≤ b
 row : ∀ s, Kd.R k32 32 w w0.heap.size (fun k => ∀ s', s' ≠ s → some k ≠ (V s').ownBlock) (V s) (G s)
 below : Below w0.heap.size w0 w
theorem GMp.made {w0 w : World} (hb : Below w0.heap.size w0 w) : GMp w0 (w.alloc (.map #[] 0)) w.heap.size 0 (.map []) (fun _ => .slice none 0 0) (fun _ => []) where
 own := World.ownsMap_made w _ _ _
 ism := Maps.isMap_empty
 val := fun _ => ⟨[], slR_nil⟩
 has := fun _ => by simp [Maps.has]
 base := hb.size
 row := fun _ => Kd.R_nil _ _ _ _ _
 below := below_alloc hb _
theorem GMp.step {w0 w w1 : World} {b n : Nat} {D : DataW Unit} {V : List UInt8 → Value} {G : List UInt8 → List S32} (h : GMp w0 w b n D V G) (hb : Below w.heap.size w w1) : GMp w0 w1 b n D V G where
 own := h.own.kept (grown_of_below hb none) (by simp)
 ism := h.ism
 val := h.val
 has := h.has
 base := h.base
 row := fun s => Kd.R_below (h.row s) hb
 below := below_step h.below hb
theorem GMp.look {w0 w : World} {b n : Nat} {D : DataW Unit} {V : List UInt8 → Value} {G : List UInt8 → List S32} (h : GMp w0 w b n D V G) (s : ByteArray) (hs : s.size ≤ maxLen) : (Instr.lookup 43 (.map (some b)) (.string s) false).run Tryz.prog w = .ok (V s.data.toList) w := by
 obtain ⟨v, ps, hrun, hv⟩ := h.own.lookup gm_keyed Tryz.underlying43 (gm_zero w) slR_nil (WideMaps.keyOf_string_mk Tryz.underlying9 hs)
 obtain ⟨qs, hq⟩ := h.val s.data.toList
 rw [slR_inj hv hq] at hrun
 exact hrun
theorem GMp.cells {w0 w : World} {b n : Nat} {D : DataW Unit} {V : List UInt8 → Value} {G : List UInt8 → List S32} (h : GMp w0 w b n D V G) (s : List UInt8) : some b ≠ (V s).ownBlock := by
 intro e
 obtain ⟨cells, hc⟩ := Kd.R_typed (h.row s) b e.symm
 obtain ⟨es, clock, hm, _⟩ := h.own
 rw [hm] at hc
 cases hc
theorem GMp.push {w0 w w1 : World} {b n : Nat} {D : DataW Unit} {V : List UInt8 → Value} {G : List UInt8 → List S32} (h : GMp w0 w b n D V G) (hn : n < maxLen) (s : ByteArray) (hs : s.size ≤ maxLen) {p : S32} {v1 : Value}
  (hr : Kd.R k32 32 w1 w0.heap.size (fun k => ∀ s', s' ≠ s.data.toList → some k ≠ (V s').ownBlock) v1 (G s.data.toList ++ [p])) (hg : w.grownBy w1 (V s.data.toList).ownBlock) (hat : v1.ownBlock = (V s.data.toList).ownBlock ∨ ∃ k, v1.ownBlock = some k ∧ w.heap.size ≤ k) (hb : Below w0.heap.size w0 w1) :
  ∃ w2 D2, (Instr.mapUpdate 43 (.map (some b)) (.string s) v1).run Tryz.prog w1 = .ok () w2 ∧ GMp w0 w2 b (n + 1) D2 (fun t => if t = s.data.toList then v1 else V t) (fun t => if t = s.data.toList then G s.data.toList ++ [p] else G t) ∧ w1.grownBy w2 (some b) ∧ ∃ es clock, w1.heap[b]? = some (.map es clock) := by
 have own1 := h.own.kept hg (h.cells s.data.toList)
 obtain ⟨y, hy⟩ := slR_own hr
 obtain ⟨w2, hrun, own2, hg2⟩ := own1.update gm_keyed Tryz.underlying43 hn (WideMaps.keyOf_string_mk Tryz.underlying9 hs) (show slR v1 = some (y.1, y.2) from hy)
 have hmap : ∀ k cells q, w1.heap[k]? = some (.cells cells q (0, 0)) → some k ≠ some b := by
  intro k cells q hc e
  obtain ⟨es, clock, hm, _⟩ := own1
  rw [Option.some.inj e, hm] at hc
  cases hc
 refine ⟨w2, _, hrun, ⟨own2, h.ism.put _ _, fun t => ?_, fun t => ?_, h.base, fun t => ?_, ?_⟩, hg2, ?_⟩
 ·by_cases e : t = s.data.toList
  ·subst e
   rw [if_pos rfl, Maps.atKey_put_same h.ism (by simp [WideAt.IsKeyLit])]
   exact ⟨y.2, hy⟩
  ·rw [if_neg e, Maps.atKey_put_other (fun g => e (by injection g))]
   exact h.val t
 ·by_cases e : t = s.data.toList
  ·subst e
   rw [if_pos rfl, Maps.has_put_same h.ism (by simp [WideAt.IsKeyLit])]
   simp
  ·rw [if_neg e, Maps.has_put_other (fun g => e (by injection g))]
   exact h.has t
 ·by_cases e : t = s.data.toList
  ·subst e
   rw [if_pos rfl, if_pos rfl]
   have h1 := Kd.R_grown (Kd.R_bound hr) hg2 (fun k hk => by obtain ⟨_, _, _, q, _, cells, hc⟩ := hk; exact hmap k cells q hc)
   refine Kd.R_mono h1 (fun k hk s' hs' => ?_)
   rw [if_neg hs']
   exact hk.1 s' hs'
  ·rw [if_neg e, if_neg e]
   have h0 := Kd.R_bound (h.row t)
   have h1 := Kd.R_grown h0 hg (fun k hk => hk.1 _ (fun g => e g.symm))
   have h2 := Kd.R_grown (Kd.R_bound h1) hg2 (fun k hk => by obtain ⟨_, _, _, q, _, cells, hc⟩ := hk; exact hmap k cells q hc)
   refine Kd.R_mono h2 (fun k hk s' hs' => ?_)
   by_cases e2 : s' = s.data.toList
   ·subst e2
    rw [if_pos rfl]
    rcases hat with hat | ⟨k2, hk2, hle⟩
    ·rw [hat]
     exact hk.1.1 _ hs'
    ·rw [hk2]
     intro g
     have := Option.some.inj g
     have := hk.1.2.2.1
     omega
   ·rw [if_neg e2]
    exact hk.1.1 s' hs'
 ·refine hb.grown hg2 ?_ (fun k hk => ?_)
  ·exact hb.size
  ·rw [← Option.some.inj hk]
   exact h.base
 ·obtain ⟨es, clock, hm, _⟩ := own1
  exact ⟨es, clock, hm⟩

def pairsF (i : Int) (s : ByteArray) : List S51 → Option (List (List UInt8 × S32))
 | [] => some []
 | t :: r => if 0 ≤ t.f1 ∧ t.f1 ≤ t.f2 ∧ t.f2 ≤ (s.size : Int) ∧ t.f2 ≤ 1000000 then (pairsF i s r).bind fun l => some (((s.extract t.f1.toNat t.f2.toNat).data.toList, ⟨i, t.f1⟩) :: l) else none
def spellF (k : Nat) : Nat → List S41 → Option (List (List UInt8 × S32))
 | _, [] => some []
 | i, f :: r => (lex_Names.f k f.f1).bind fun ts => (pairsF (i : Int) f.f1 ts).bind fun l => (spellF k (i + 1) r).bind fun m => some (l ++ m)
/-- The places of a text among pairs of texts and places. -/
def Gp (P : List (List UInt8 × S32)) (t : List UInt8) : List S32 := (P.filter fun x => x.1 == t).map (·.2)
theorem Gp_len (P l : List (List UInt8 × S32)) (i : Nat) (t : List UInt8) : (Gp (P ++ l.take i) t).length ≤ P.length + i := by
 unfold Gp
 rw [List.length_map]
 refine Nat.le_trans (List.length_filter_le _ _) ?_
 rw [List.length_append, List.length_take]
 omega
theorem Gp_snoc (P : List (List UInt8 × S32)) (s : List UInt8) (p : S32) : (fun t => if t = s then Gp P s ++ [p] else Gp P t) = Gp (P ++ [(s, p)]) := by
 funext t
 unfold Gp
 rw [List.filter_append, List.map_append]
 by_cases h : t = s
 ·subst h
  rw [if_pos rfl]
  simp
 ·rw [if_neg h]
  have : (s == t) = false := beq_eq_false_iff_ne.2 (fun e => h e.symm)
  simp [this]
def spell_spelled.f (k : Nat) (l0 : List S41) : Option (List (List UInt8 × S32)) := if l0.length ≤ 1000 then (spellF k 0 l0).bind fun l => if l.length ≤ 1000000 then some l else none else none
theorem spellF_mono (k : Nat) : ∀ l i, LeO (spellF k i l) (spellF (k + 1) i l)
 | [], _ => LeO.refl _
 | f :: r, i => LeO.bind (lex_Names.mono _ _) fun _ => LeO.bind (LeO.refl _) fun _ => LeO.bind (spellF_mono k r (i + 1)) fun _ => LeO.refl _
theorem spell_spelled.mono : ∀ a0 k, LeO (spell_spelled.f k a0) (spell_spelled.f (k + 1) a0) := by
 intro a0 k
 unfold spell_spelled.f
 exact LeO.ite (LeO.bind (spellF_mono k _ _) fun _ => LeO.refl _) (LeO.refl _)
/-- All but blocks of places stays. -/
def PKeep (W W1 : World) : Prop := W.heap.size ≤ W1.heap.size ∧ ∀ (k : Nat) cells q, W.heap[k]? = some (.cells cells q (0, 0)) → q ≠ 32 → W1.heap[k]? = some (.cells cells q (0, 0))
theorem PKeep.refl (W : World) : PKeep W W := ⟨Nat.le_refl _, fun _ _ _ h _ => h⟩
theorem PKeep.trans {A B C : World} (h : PKeep A B) (k : PKeep B C) : PKeep A C := ⟨Nat.le_trans h.1 k.1, fun i c q hi hq => k.2 i c q (h.2 i c q hi hq) hq⟩
theorem PKeep.below {W W1 : World} (hb : Below W.heap.size W W1) : PKeep W W1 := ⟨hb.size, fun k _ _ h _ => (hb.block k (blk_lt h)).trans h⟩
theorem PKeep.grown {W W1 : World} {v : Value} (hg : W.grownBy W1 v.ownBlock) (ht : ∀ k, v.ownBlock = some k → ∃ cells, W.heap[k]? = some (.cells cells 32 (0, 0))) : PKeep W W1 := by
 refine ⟨hg.size, fun k c q h hq => (hg.block k (blk_lt h) (fun e => ?_)).trans h⟩
 obtain ⟨c2, h2⟩ := ht k e.symm
 rw [h] at h2
 injection h2 with h2
 injection h2 with _ h2 _
 exact hq h2
theorem PKeep.map {W W1 : World} {b : Nat} {es : Array MapEntry} {clock : Nat} (hm : W.heap[b]? = some (.map es clock)) (hg : W.grownBy W1 (some b)) : PKeep W W1 := by
 refine ⟨hg.size, fun k c q h hq => (hg.block k (blk_lt h) (fun e => ?_)).trans h⟩
 rw [Option.some.inj e, hm] at h
 cases h
theorem PKeep.row {W W1 : World} (hk : PKeep W W1) {base : Nat} {ok : Nat → Prop} {v : Value} {ts : List S51} (h : Kd.R k51 51 W base ok v ts) : Kd.R k51 51 W1 base ok v ts := by
 refine Kd.R_mono (Kd.R_move (Kd.R_bound h) (fun k hkk => ?_)) (fun _ hkk => hkk.1)
 obtain ⟨_, _, _, q, hq, cells, hc⟩ := hkk
 rw [hk.2 k cells q hc ((show ∀ q, q ∈ 51 :: Kd.E k51 → q ≠ 32 by decide) q hq), hc]
theorem pairsF_len {i : Int} {s : ByteArray} : ∀ {ts : List S51} {l : List (List UInt8 × S32)}, pairsF i s ts = some l → l.length = ts.length
 | [], l, h => by
  obtain rfl := Option.some.inj h
  rfl
 | t :: r, l, h => by
  unfold pairsF at h
  split at h
  ·obtain ⟨m, hm, h⟩ := Option.bind_eq_some_iff.1 h
   obtain rfl := Option.some.inj h
   rw [List.length_cons, List.length_cons, pairsF_len hm]
  ·cases h
theorem pairsF_at {i : Int} {s : ByteArray} : ∀ {ts : List S51} {l : List (List UInt8 × S32)} (_ : pairsF i s ts = some l) (j : Nat) (hj : j < ts.length), 0 ≤ (ts[j]).f1 ∧ (ts[j]).f1 ≤ (ts[j]).f2 ∧ (ts[j]).f2 ≤ (s.size : Int) ∧ (ts[j]).f2 ≤ 1000000 ∧ l.take (j + 1) = l.take j ++ [((s.extract (ts[j]).f1.toNat (ts[j]).f2.toNat).data.toList, ⟨i, (ts[j]).f1⟩)]
 | [], l, h, j, hj => by simp at hj
 | t :: r, l, h, j, hj => by
  unfold pairsF at h
  split at h
  ·rename_i hc
   obtain ⟨m, hm, h⟩ := Option.bind_eq_some_iff.1 h
   obtain rfl := Option.some.inj h
   cases j with
   | zero => exact ⟨hc.1, hc.2.1, hc.2.2.1, hc.2.2.2, rfl⟩
   | succ j =>
    obtain ⟨h1, h2, h3, h5, h4⟩ := pairsF_at hm j (by simpa using hj)
    exact ⟨h1, h2, h3, h5, by rw [List.take_succ_cons, h4]; rfl⟩
  ·cases h
theorem pl_tok (w : World) (base : Nat) (ok : Nat → Prop) (a b : Int) : k32.M w base ok ⟨a, b⟩ [.int .i64 a, .int .i64 b] := k32_mkM w base ok ⟨a, b⟩
theorem place_map : (Tryz.prog.info? 32).map (fun i => (i.zero, i.size, i.bytes)) = some (some (.agg #[.int .i64 0, .int .i64 0]), 2, 16) := by kernel_rfl
set_option maxHeartbeats 8000000 in
set_option maxRecDepth 100000 in
theorem spell_spelled.calls (k : Nat) (A0 : Option Addr) (c0 : Nat) (l0 : List S41) (r : List (List UInt8 × S32)) (w : World) (hr0 : Kd.C k41 w A0 l0.length l0) (hc0 : l0.length ≤ c0) (h : spell_spelled.f k l0 = some r) :
  Calls Tryz.prog 17 #[.slice A0 l0.length c0] w fun e w' => ∃ b n D V, e = .returned (.map (some b)) ∧ n ≤ 1000000 ∧ GMp w w' b n D V (Gp r) := by
 have hu29 := Tryz.underlying41
 have hu54 := Tryz.underlying51
 have hu22 := Tryz.underlying22
 have hu51 := Tryz.underlying48
 have hu35 := Tryz.underlying28
 have hu40 := Tryz.underlying43
 have hu9 := Tryz.underlying9
 unfold spell_spelled.f at h
 by_cases hl5 : l0.length ≤ 1000
 case neg => rw [if_neg hl5] at h; cases h
 rw [if_pos hl5] at h
 obtain ⟨all, hall, h⟩ := Option.bind_eq_some_iff.1 h
 by_cases hl6 : all.length ≤ 1000000
 case neg => rw [if_neg hl6] at h; cases h
 rw [if_pos hl6] at h
 obtain rfl := Option.some.inj h
 clear h
 obtain ⟨m, hm⟩ : ∃ m, l0.length = m := ⟨_, rfl⟩
 have HC := Aside0.mk hr0
 rw [hm] at HC hl5 ⊢
 have HM := Lib.hid hm
 have HALL := Lib.hid hall
 have HL6 := Lib.hid hl6
 clear hr0 hc0 hm hall hl6
 have HG0 := Aside0.mk (GMp.made (Below.refl w.heap.size w))
 have hmm := @run_makeMap Tryz.prog
 have hnil : (fun _ => [] : List UInt8 → List S32) = Gp [] := rfl
 rw [hnil] at HG0
 clear hnil
 go_enter Tryz.func17, Tryz.ntmps17
 go_wp2_with fail
 generalize hB : w.heap.size = B at *
 have HBB := Lib.hid hB
 clear hB
 generalize w.alloc (.map #[] 0) = w1 at *
 go_loopg [12] m (fun gg v12 wr => ∃ (j n : Nat) (D : DataW Unit) (V : List UInt8 → Value) (P Q : List (List UInt8 × S32)), v12 = .int .i64 j ∧ j ≤ m ∧ m - j ≤ gg ∧ Hid (spellF k j (l0.drop j) = some Q ∧ P ++ Q = all ∧ n = P.length) ∧ Aside0 (GMp w wr B n D V (Gp P)))
 case atStart => exact ⟨0, 0, .map [], _, [], all, rfl, Nat.zero_le _, Nat.le_refl _, ⟨by rw [List.drop_zero]; exact HALL.out, rfl, rfl⟩, HG0⟩
 case round =>
  clear HG0
  obtain ⟨j, n, D, V, P, Q, rfl, hj, hgj, hz, HG⟩ := hrel
  by_cases hlt : j < m
  ·have hltz : (j : Int) < (m : Int) := by omega
   obtain ⟨hz1, hz2, hz3⟩ := hz.out
   have hjl : j < l0.length := by rw [HM.out]; exact hlt
   rw [List.drop_eq_getElem_cons hjl] at hz1
   obtain ⟨ts, hts, hz1⟩ := Option.bind_eq_some_iff.1 hz1
   obtain ⟨lp, hlp, hz1⟩ := Option.bind_eq_some_iff.1 hz1
   obtain ⟨lq, hlq, hz1⟩ := Option.bind_eq_some_iff.1 hz1
   obtain rfl := Option.some.inj hz1
   clear hz hz1
   obtain ⟨ad1, ead1, k0, k1⟩ := at_T41 HC.out (j : Int) (by omega) hltz
   rw [Int.toNat_natCast] at k0 k1
   have hrd : rd_T41 l0 (j : Int) = l0[j] := by
    unfold rd_T41
    rw [Int.toNat_natCast, List.getD_eq_getElem?_getD, List.getElem?_eq_getElem hjl]
    rfl
   rw [hrd] at k0 k1
   generalize l0[j] = x at k0 k1 hts hlp
   obtain ⟨x0, x1⟩ := x
   dsimp only at k0 k1 hts hlp
   cases ead1
   have hbw := HG.out.below
   replace k0 := (hbw.cell (World.block_lt_of_cell? w _ k0)).trans k0
   replace k1 := (hbw.cell (World.block_lt_of_cell? w _ k1)).trans k1
   have HNA := Aside0.mk (fun (W' : World) => lex_Names.calls k x1 ts W' hts)
   have HLP := Lib.hid hlp
   have HZ := Lib.hid (show spellF k (j + 1) (l0.drop (j + 1)) = some lq ∧ P ++ (lp ++ lq) = all ∧ n = P.length from ⟨hlq, hz2, hz3⟩)
   clear hbw hrd hts hlp hlq hz2 hz3
   go_wp2_with (first | ((with_reducible refine gate_dst (N := 5) rfl ?_); (try (refine gate_guard (by rfl) ?_; dsimp only)); refine box_event ?hg (N := 5) ?hd (cs := #[.string ⟨#[]⟩, .string ⟨#[]⟩]) (t := 41) ?hr ?_; (case hd => rfl); (case hg => rfl); (case hr => (go_simp; done)); intro b5 hg5 w3 hbox hb; have B5 := Aside0.mk hbox; clear hbox; have hc0 : w3.cell? ⟨b5, 0, none⟩ = some (.string ⟨#[]⟩) := (blk_cell B5.out 0).trans rfl; have hc1 : w3.cell? ⟨b5, 1, none⟩ = some (.string ⟨#[]⟩) := (blk_cell B5.out 1).trans rfl; have hf0 := blk_frozen B5.out 0; have hf1 := blk_frozen B5.out 1; have p0 := blk_put (cs' := #[.string x0, .string ⟨#[]⟩]) B5.out 0 (.string x0) rfl; have BX := Aside0.mk (blk_put (cs' := #[.string x0, .string x1]) p0 1 (.string x1) rfl); have HGX := Aside0.mk (HG.out.step (below_set (j := 1) (v := .string x1) (below_set (j := 0) (v := .string x0) hb (Nat.le_of_eq hg5.symm)) (Nat.le_of_eq hg5.symm))); have d1 : ((w3.setCell ⟨b5, 0, none⟩ (.string x0)).setCell ⟨b5, 1, none⟩ (.string x1)).cell? ⟨b5, 1, none⟩ = some (.string x1) := (blk_cell BX.out 1).trans rfl; clear p0 HG B5 hb hg5) | (go_at_call 42; with_reducible refine (HNA.out _).mono ?_; rintro e w9 ⟨v0, rfl, hR, hb⟩; have HG := Aside0.mk (HGX.out.step hb); have BF := Aside0.mk (blk_below (g := b5) BX.out hb); obtain ⟨AT, cT, eT⟩ := Kd.R_slice hR; subst eT; have HR := Aside0.mk hR; clear hR HGX BX hb))
   obtain ⟨nt, hnt⟩ : ∃ nt, ts.length = nt := ⟨_, rfl⟩
   rw [hnt] at HR ⊢
   have HNT := Lib.hid hnt
   have hbnd : P.length + nt ≤ 1000000 := by
    have h1 := congrArg List.length HZ.out.2.1
    have h2 := pairsF_len HLP.out
    have h3 := HL6.out
    simp only [List.length_append] at h1
    omega
   have hg9 := HG.out
   clear hnt
   go_loopg [21] nt (fun gg v21 wq => ∃ (i n' : Nat) (D' : DataW Unit) (V' : List UInt8 → Value), v21 = .int .i64 i ∧ i ≤ nt ∧ nt - i ≤ gg ∧ Hid (n' = P.length + i) ∧ Aside0 (GMp w wq B n' D' V' (Gp (P ++ lp.take i))) ∧ Aside0 (PKeep w9 wq))
   case atStart => exact ⟨0, n, D, V, rfl, Nat.zero_le _, Nat.le_refl _, Lib.hid HZ.out.2.2, ⟨by rw [List.take_zero, List.append_nil]; exact hg9⟩, ⟨PKeep.refl _⟩⟩
   case round =>
    clear HG hg9
    obtain ⟨i, n', D', V', rfl, hi, hgi, HN', HG, HKP⟩ := hrel
    by_cases hli : i < nt
    ·have hliz : (i : Int) < (nt : Int) := by omega
     have hil : i < ts.length := by rw [HNT.out]; exact hli
     obtain ⟨s1, s2, s3, s5, s4⟩ := pairsF_at HLP.out i hil
     have HRq := HKP.out.row HR.out
     obtain ⟨-, -, hCq⟩ := Kd.R_reads' HRq
     rw [HNT.out] at hCq
     obtain ⟨ad2, ead2, c0_, c1_, c2_⟩ := at_T51 hCq (i : Int) (by omega) hliz
     rw [Int.toNat_natCast] at c0_ c1_ c2_
     have hrd : rd_T51 ts (i : Int) = ts[i] := by
      unfold rd_T51
      rw [Int.toNat_natCast, List.getD_eq_getElem?_getD, List.getElem?_eq_getElem hil]
      rfl
     rw [hrd] at c0_ c1_ c2_
     generalize ts[i] = y at c0_ c1_ c2_ s1 s2 s3 s4 s5
     obtain ⟨y0, y1, y2⟩ := y
     dsimp only at c0_ c1_ c2_ s1 s2 s3 s4 s5
     cases ead2
     have HTK := Lib.hid s4
     have HGL := Lib.hid (show ∀ t, (Gp (P ++ lp.take i) t).length ≤ P.length + i from fun t => Gp_len P lp i t)
     have hks : (x1.extract y1.toNat y2.toNat).size ≤ maxLen := by
      have h1 : (x1.extract y1.toNat y2.toNat).size ≤ y2.toNat := by
       rw [ByteArray.size_extract]
       omega
      unfold maxLen
      omega
     obtain ⟨ky, hky⟩ : ∃ ky, (x1.extract y1.toNat y2.toNat) = ky := ⟨_, rfl⟩
     obtain ⟨kl, hkl⟩ : ∃ kl, ky.data.toList = kl := ⟨_, rfl⟩
     rw [hky] at hks
     rw [hky, hkl] at HTK
     have HKL := Lib.hid hkl
     clear hkl
     have BFq := Aside0.mk (HKP.out.2 _ _ _ BF.out (by decide))
     clear hrd hCq HRq s4
     go_wp2_with (first | ((with_reducible refine gate_dst (N := 7) rfl ?_); (try (refine gate_guard (by rfl) ?_; dsimp only)); refine box_event ?hg (N := 7) ?hd (cs := #[.int .i64 0, .int .i64 0, .int .i64 0]) (t := 51) ?hr ?_; (case hd => rfl); (case hg => rfl); (case hr => (go_simp; done)); intro b7 hg7 w3 hbox hb; have B7 := Aside0.mk hbox; clear hbox; have hc0 : w3.cell? ⟨b7, 0, none⟩ = some (.int .i64 0) := (blk_cell B7.out 0).trans rfl; have hc1 : w3.cell? ⟨b7, 1, none⟩ = some (.int .i64 0) := (blk_cell B7.out 1).trans rfl; have hc2 : w3.cell? ⟨b7, 2, none⟩ = some (.int .i64 0) := (blk_cell B7.out 2).trans rfl; have hf0 := blk_frozen B7.out 0; have hf1 := blk_frozen B7.out 1; have hf2 := blk_frozen B7.out 2; have p0 := blk_put (cs' := #[.int .i64 y0, .int .i64 0, .int .i64 0]) B7.out 0 (.int .i64 y0) rfl; have p1 := blk_put (cs' := #[.int .i64 y0, .int .i64 y1, .int .i64 0]) p0 1 (.int .i64 y1) rfl; have BX := Aside0.mk (blk_put (cs' := #[.int .i64 y0, .int .i64 y1, .int .i64 y2]) p1 2 (.int .i64 y2) rfl); have hbx := below_set (j := 2) (v := .int .i64 y2) (below_set (j := 1) (v := .int .i64 y1) (below_set (j := 0) (v := .int .i64 y0) hb (Nat.le_of_eq hg7.symm)) (Nat.le_of_eq hg7.symm)) (Nat.le_of_eq hg7.symm); have HGX := Aside0.mk (HG.out.step hbx); have HKX := Aside0.mk (HKP.out.trans (PKeep.below hbx)); have BFX := Aside0.mk (blk_below (g := b5) BFq.out hbx); have d5 : (((w3.setCell ⟨b7, 0, none⟩ (.int .i64 y0)).setCell ⟨b7, 1, none⟩ (.int .i64 y1)).setCell ⟨b7, 2, none⟩ (.int .i64 y2)).cell? ⟨b5, 1, none⟩ = some (.string x1) := (blk_cell BFX.out 1).trans rfl; have d1 : (((w3.setCell ⟨b7, 0, none⟩ (.int .i64 y0)).setCell ⟨b7, 1, none⟩ (.int .i64 y1)).setCell ⟨b7, 2, none⟩ (.int .i64 y2)).cell? ⟨b7, 1, none⟩ = some (.int .i64 y1) := (blk_cell BX.out 1).trans rfl; have d2 : (((w3.setCell ⟨b7, 0, none⟩ (.int .i64 y0)).setCell ⟨b7, 1, none⟩ (.int .i64 y1)).setCell ⟨b7, 2, none⟩ (.int .i64 y2)).cell? ⟨b7, 2, none⟩ = some (.int .i64 y2) := (blk_cell BX.out 2).trans rfl; have hlk := HGX.out.look ky hks; rw [HKL.out] at hlk; have hrow := HGX.out.row kl; obtain ⟨AV, cV, eV⟩ := Kd.R_slice hrow; obtain ⟨nV, hnV⟩ : ∃ nV, (Gp (P ++ lp.take i) kl).length = nV := ⟨_, rfl⟩; rw [hnV] at eV; rw [eV] at hlk hrow; have HEV := Lib.hid eV; have HROW := Aside0.mk hrow; have HNV := Lib.hid hnV; clear eV hrow hnV; clear p0 p1 HG HKP B7 BFq hb hg7 hbx) | (at_builtin; go_loud (refine Kd.R_append k32 (w0 := w) w.heap.size rfl _ _ 28 32 (.agg #[.int .i64 0, .int .i64 0]) 16 rfl hu35 place_map rfl (by decide) (by decide) (.slice AV nV cV) (Gp (P ++ lp.take i) kl) ⟨(j : Int), y1⟩ [.int .i64 j, .int .i64 y1] (fun k => ∀ s', s' ≠ kl → some k ≠ (V' s').ownBlock) (fun _ => False) rfl (by show Value.slice (some ⟨w3.heap.size, 0, none⟩) 1 1 = _; simp) (pl_tok _ _ _ _ _) (fun _ h_ => h_.elim) (fun k hk s' hs' he => by have := Kd.R_lt (HGX.out.row s') k he.symm; omega) HROW.out HGX.out.below HGX.out.below.size ?hl ?hk)))
     case hl =>
      have h1 := HNV.out
      have h2 := HN'.out
      have h3 := HGL.out kl
      omega
     case hk =>
      intro v1 w4 ho hb hgr hat
      obtain ⟨A1, c1, eA⟩ := Kd.R_slice ho
      obtain ⟨n1, hn1⟩ : ∃ n1, (Gp (P ++ lp.take i) kl ++ [(⟨(j : Int), y1⟩ : S32)]).length = n1 := ⟨_, rfl⟩
      rw [hn1] at eA
      subst eA
      obtain ⟨w5, D2, hrun, hG5, hg5, es5, ck5, hm5⟩ := HGX.out.push (p := ⟨(j : Int), y1⟩) (by have := HN'.out; unfold maxLen; omega) ky hks (by rw [HKL.out]; exact ho) (by rw [HKL.out, HEV.out]; exact hgr) (by rw [HKL.out, HEV.out]; exact hat.imp id (fun ⟨b_, h1_, h2_⟩ => ⟨b_, h1_, by simpa using h2_⟩)) hb
      rw [HKL.out] at hG5
      have hk4 : PKeep w9 w5 := (HKX.out.trans (PKeep.grown hgr (Kd.R_typed HROW.out))).trans (PKeep.map hm5 hg5)
      rw [Gp_snoc, List.append_assoc, ← HTK.out] at hG5
      have HG6 := Aside0.mk hG5
      have HK6 := Aside0.mk hk4
      clear ho hb hgr hat hG5 hg5 hm5 hk4 HGX HKX HROW hlk hn1
      go_wp2_with fail
      go_roundg (nt - (i + 1))
      case measure => omega
      case rel => exact ⟨i + 1, n' + 1, D2, _, by go_num, by omega, Nat.le_refl _, Lib.hid (by have := HN'.out; omega), HG6, HK6⟩
    ·have hliz : ¬ (i : Int) < (nt : Int) := by omega
     obtain rfl : i = nt := by omega
     have hfull : lp.take i = lp := List.take_of_length_le (by rw [pairsF_len HLP.out, HNT.out]; exact Nat.le_refl _)
     rw [hfull] at HG
     clear hfull
     have HGF := HG
     have HK2 := Lib.hid (show spellF k (j + 1) (l0.drop (j + 1)) = some lq ∧ (P ++ lp) ++ lq = all ∧ n' = (P ++ lp).length from ⟨HZ.out.1, by rw [List.append_assoc]; exact HZ.out.2.1, by rw [List.length_append, pairsF_len HLP.out, HNT.out]; exact HN'.out⟩)
     go_wp2_with fail
     go_roundg (m - (j + 1))
     case measure => omega
     case rel => exact ⟨j + 1, n', D', V', P ++ lp, lq, by go_num, by omega, Nat.le_refl _, HK2, HGF⟩
  ·have hltz : ¬ (j : Int) < (m : Int) := by omega
   obtain rfl : j = m := by omega
   have hP : P = all := by
    obtain ⟨h1, h2, _⟩ := hz.out
    rw [List.drop_of_length_le (by rw [HM.out]; exact Nat.le_refl _)] at h1
    obtain rfl := Option.some.inj h1
    rwa [List.append_nil] at h2
   have hn6 : n ≤ 1000000 := by rw [hz.out.2.2, hP]; exact HL6.out
   have HN6 := Lib.hid hn6
   rw [hP] at HG
   clear hz hP hn6
   go_wp2_with fail
   go_ret
   exact ⟨B, rfl, n, HN6.out, D, V, HG.out⟩

/-! #### slices.Sort at a row of texts -/
def ofL (l : List UInt8) : ByteArray := ⟨l.toArray⟩
theorem row_flatS {e base : Nat} {ok ok' : Nat → Prop} {w : World} {v : Value} {xs : List ByteArray} (h : Kd.string.R e w base ok v xs) (hok : ∀ k, v.ownBlock = some k → ok k → ok' k) : Kd.string.R e w base ok' v xs := by
 obtain ⟨h0, inner, hown, hr⟩ := h
 exact ⟨fun k hk => hok k hk (h0 k hk), inner, hown, hr.imp_ (fun _ _ hm => hm)⟩
theorem rows_block {w : World} {base g n cap : Nat} {ok : Nat → Prop} {xs : List ByteArray} (h : Kd.R Kd.string 9 w base ok (.slice (some ⟨g, 0, none⟩) n cap) xs) :
  n = xs.length ∧ n ≤ cap ∧ cap ≤ maxLen ∧ base ≤ g ∧ ∃ cur : Array Value, w.heap[g]? = some (.cells cur 9 (0, 0)) ∧ cur.size = cap := by
 obtain ⟨_, inner, ⟨_, h2⟩, _⟩ := h
 rcases h2 with ⟨hv, _⟩ | ⟨g', cap', cur, hv, hb, hh, hnc, hcm, hcs, htk⟩
 ·cases hv
 ·obtain ⟨rfl, hn, rfl⟩ : g = g' ∧ n = xs.length ∧ cap = cap' := by
   injection hv with ha hn hc
   injection ha with ha
   injection ha with hg'
   exact ⟨hg', hn, hc⟩
  exact ⟨hn, by omega, hcm, hb, cur, hh, by rw [hcs]; exact Nat.mul_one _⟩
theorem rows_make {w : World} {base g cap : Nat} {cur : Array Value} {xs : List ByteArray} (hh : w.heap[g]? = some (.cells cur 9 (0, 0))) (hb : base ≤ g) (hn : xs.length ≤ cap) (hcm : cap ≤ maxLen) (hcs : cur.size = cap)
  (hc : ∀ (j : Nat) (x : ByteArray), xs[j]? = some x → w.cell? ⟨g, j, none⟩ = some (.string x)) :
  Kd.R Kd.string 9 w base (fun _ => True) (.slice (some ⟨g, 0, none⟩) xs.length cap) xs := by
 have hcl : cur.toList.length = cap := by rw [Array.length_toList, hcs]
 have hl : (cur.toList.take (xs.length * 1)).length = xs.length * 1 := by rw [List.length_take, hcl]; omega
 refine ⟨fun _ _ => trivial, cur.toList.take (xs.length * 1), ⟨hl, .inr ⟨g, cap, cur, rfl, hb, hh, hn, hcm, by rw [hcs]; exact (Nat.mul_one _).symm, rfl⟩⟩, hl, fun j x hj => ?_⟩
 have h0 := hc j x hj
 have hjl : j < xs.length := (List.getElem?_eq_some_iff.1 hj).1
 unfold World.cell? at h0
 rw [hh] at h0
 replace h0 : cur[j]? = some (.string x) := h0
 have e : ((cur.toList.take (xs.length * 1)).drop (j * 1)).take 1 = [.string x] := by
  apply List.ext_getElem?
  intro i
  rw [List.getElem?_take, List.getElem?_drop, List.getElem?_take]
  match i with
  | 0 => rw [if_pos (by omega), if_pos (by omega), Nat.add_zero, Nat.mul_one, Array.getElem?_toList, h0]; rfl
  | i + 1 => rw [if_neg (by omega)]; rfl
 show Kd.string.M w base _ x (((cur.toList.take (xs.length * 1)).drop (j * 1)).take 1)
 rw [e]
 exact rfl
theorem rows_holds {w : World} {base g n cap : Nat} {ok : Nat → Prop} {ss : List (List UInt8)} (h : Kd.R Kd.string 9 w base ok (.slice (some ⟨g, 0, none⟩) n cap) (ss.map ofL)) : Sort.Holds encStr w g 0 ss.toArray := by
 obtain ⟨hn, _, _, _, cur, hh, _⟩ := rows_block h
 rw [List.length_map] at hn
 intro j hj
 rw [List.size_toArray] at hj
 refine ⟨?_, blk_frozen hh _⟩
 obtain ⟨hc, _⟩ := Kd.R_celln ByteArray.empty h (j : Int) (by omega) (by omega)
 rw [Int.toNat_natCast] at hc
 rw [Nat.zero_add, hc]
 have e : rdOf ByteArray.empty (ss.map ofL) (j : Int) = ofL ss[j] := by
  unfold rdOf
  rw [Int.toNat_natCast, List.getD_eq_getElem?_getD, List.getElem?_map, List.getElem?_eq_getElem hj]
  rfl
 rw [e, getElem!_pos _ _ (by simpa using hj)]
 rfl
set_option maxHeartbeats 2000000 in
theorem sort_str (v : Value) (ss : List (List UInt8)) (base : Nat) (ok : Nat → Prop) (w : World) (HO : Kd.R Kd.string 9 w base ok v (ss.map ofL)) (hsz : ss.length ≤ 100000000) :
  Calls Tryz.prog 49 #[v] w fun e w' => e = .returned (.tuple #[]) ∧ Kd.R Kd.string 9 w' base (fun _ => True) v ((ss.mergeSort fun x y => decide (x ≤ y)).map ofL) ∧ w.grownBy w' v.ownBlock := by
 by_cases hem : ss.length = 0
 ·obtain ⟨p, cap, rfl⟩ := Kd.R_slice HO
  have hnil : ss = [] := List.length_eq_zero_iff.1 hem
  subst hnil
  refine (Tryz.slices_Sort_string_none p cap w).mono ?_
  rintro e w' ⟨rfl, rfl⟩
  rw [List.mergeSort_nil]
  exact ⟨rfl, row_flatS HO (fun _ _ _ => trivial), ⟨rfl, rfl, rfl, Nat.le_refl _, fun _ _ _ => rfl⟩⟩
 ·obtain ⟨g, cap, rfl, hbg, -, -⟩ := Kd.R_form HO (by rw [List.length_map]; omega)
  obtain ⟨hn, hnc, hcm, hb, cur, hh, hcs⟩ := rows_block HO
  have hlt := blk_lt hh
  have hH := rows_holds HO
  rw [List.length_map] at hnc ⊢
  refine (Tryz.slices_Sort_string g 0 cap ss w hH hlt (by omega)).mono ?_
  rintro e w' ⟨rfl, m, os, rfl⟩
  obtain ⟨ys, hys⟩ : ∃ ys, (ss.mergeSort fun x y => decide (x ≤ y)) = ys := ⟨_, rfl⟩
  have hl : ys.length = ss.length := by rw [← hys, List.length_mergeSort]
  rw [hys]
  have hsz : (Sort.putRow encStr (Sort.ahead w m) g 0 ys.toArray).heap.size = w.heap.size := by
   rw [Sort.size_putRow]
   rfl
  have hcell : ∀ j, (Sort.grow (Sort.putRow encStr (Sort.ahead w m) g 0 ys.toArray) os).cell? ⟨g, j, none⟩ = (Sort.putRow encStr (Sort.ahead w m) g 0 ys.toArray).cell? ⟨g, j, none⟩ := by
   intro j
   unfold Sort.grow World.cell?
   dsimp only
   rw [Array.getElem?_append_left (by rw [hsz]; exact hlt)]
  have hheap : (Sort.grow (Sort.putRow encStr (Sort.ahead w m) g 0 ys.toArray) os).heap[g]? = some (.cells (Sort.putCells encStr 0 ys.toArray cur) 9 (0, 0)) := by
   unfold Sort.grow
   dsimp only
   rw [Array.getElem?_append_left (by rw [hsz]; exact hlt)]
   unfold Sort.putRow Sort.mapBlock Sort.ahead
   dsimp only
   rw [Array.getElem?_modify, if_pos rfl, hh]
   rfl
  refine ⟨rfl, ?_, ⟨rfl, rfl, rfl, ?_, fun k hk hne => ?_⟩⟩
  ·have hl2 : ss.length = (ys.map ofL).length := by rw [List.length_map, hl]
   rw [hl2]
   refine rows_make hheap hb (by omega) hcm (by simp [Sort.putCells, hcs]) fun j x hj => ?_
   have hjl : j < ys.length := by have := (List.getElem?_eq_some_iff.1 hj).1; rwa [List.length_map] at this
   have hH' : Sort.Holds encStr (Sort.ahead w m) g 0 ss.toArray := hH
   have := Sort.cell?_putRow encStr (Sort.ahead w m) g 0 ss.toArray ys.toArray hH' (by simp [hl]) j (by simpa [hl] using hjl)
   rw [Nat.zero_add] at this
   rw [hcell, this, getElem!_pos _ _ (by simpa using hjl)]
   rw [List.getElem?_map, List.getElem?_eq_getElem hjl] at hj
   have hx : ofL ys[j] = x := Option.some.inj hj
   rw [← hx]
   rfl
  ·unfold Sort.grow
   dsimp only
   rw [Array.size_append, hsz]
   omega
  ·unfold Sort.grow
   dsimp only
   rw [Array.getElem?_append_left (by rw [hsz]; exact hk)]
   unfold Sort.putRow Sort.mapBlock Sort.ahead
   dsimp only
   rw [Array.getElem?_modify, if_neg (fun e => hne (by rw [e]; rfl))]

theorem own_size {w : World} {b n : Nat} {D : DataW Unit} (h : w.ownsMap Tryz.prog 9 slR b n D) : Maps.size D ≤ n := by
 obtain ⟨es, clock, _, _, hs, rfl⟩ := h
 show ((es.toList.map (WideElems.rg Tryz.prog 9 slR)).foldr DataW.insert []).length ≤ n
 rw [length_sorted]
 simpa using hs
theorem rg_ne {w : World} {b r n cnt : Nat} {D : DataW Unit} {left : Lit → Bool} (h : w.ranges Tryz.prog 9 slR b r n D left cnt) {row : Option Nat} (ht : ∀ k, row = some k → ∃ cells q, w.heap[k]? = some (.cells cells q (0, 0))) : some b ≠ row ∧ some r ≠ row := by
 constructor
 ·intro e
  obtain ⟨cells, q, hc⟩ := ht b e.symm
  obtain ⟨es, clock, hm, _⟩ := h.owns
  rw [hm] at hc
  cases hc
 ·intro e
  obtain ⟨cells, q, hc⟩ := ht r e.symm
  obtain ⟨es, clock, since, seen, c0, _, _, _, _, hr, _⟩ := h
  rw [hr] at hc
  cases hc
theorem str_map : (Tryz.prog.info? 9).map (fun i => (i.zero, i.size, i.bytes)) = some (some (.string ⟨#[]⟩), 1, 16) := by kernel_rfl
set_option maxHeartbeats 8000000 in
set_option maxRecDepth 100000 in
theorem rising_calls {w0 w : World} {b n : Nat} {D : DataW Unit} {V : List UInt8 → Value} {G : List UInt8 → List S32} (h : GMp w0 w b n D V G) (hn : n ≤ 1000000) :
  Calls Tryz.prog 30 #[.map (some b)] w fun e w' => ∃ v : Value, e = .returned v ∧ Kd.R Kd.string 9 w' w.heap.size (fun _ => True) v (((strKeys D).mergeSort fun x y => decide (x ≤ y)).map ofL) ∧ Below w.heap.size w w' := by
 have hu30 := Tryz.underlying35
 have hown := h.own
 have hsz0 := own_size hown
 have HSZ := Lib.hid (show Maps.size D ≤ 1000000 by omega)
 have HOWN := Aside0.mk hown
 obtain ⟨sz, hszd⟩ : ∃ sz, Maps.size D = sz := ⟨_, rfl⟩
 have HSD := Lib.hid hszd
 clear h hsz0 hn hszd
 go_enter Tryz.func30, Tryz.ntmps30
 go_wp2_with (at_range; go_loud (refine wpList_range_own _ rfl _ 43 rfl 9 28 gm_keyed Tryz.underlying43 slR b n D rfl hown ?_; intro w1 hrg hg1 hs1))
 go_frame
 obtain ⟨r, hr⟩ : ∃ r, w.heap.size = r := ⟨_, rfl⟩
 have HB1 := Aside0.mk ((Below.refl w.heap.size w).grown hg1 (Nat.le_refl _) (fun j hj => by cases hj))
 have HRG1 := Aside0.mk hrg
 rw [hr] at HRG1 HB1 ⊢
 clear hrg hs1 hg1
 have HR := Lib.hid hr
 clear hr
 go_loopg [3] sz (fun gg v3 wr => ∃ (left : Lit → Bool) (cnt : Nat) (ss : List (List UInt8)), cnt ≤ gg ∧ Aside0 (wr.ranges Tryz.prog 9 slR b r n D left cnt) ∧ Hid (ss.length + cnt ≤ sz ∧ Collected D left ss) ∧ Aside0 (Kd.R Kd.string 9 wr r (fun _ => True) v3 (ss.map ofL)) ∧ Aside0 (Below r w wr))
 case atStart => exact ⟨_, _, [], Nat.le_of_eq HSD.out, HRG1, Lib.hid ⟨by rw [HSD.out]; simp, Collected.start D⟩, ⟨Kd.R_nil _ _ _ _ _⟩, HB1⟩
 case round =>
  clear HRG1 HB1
  obtain ⟨left, cnt, ss, hcg, HRG, HC, HO, HB⟩ := hrel
  go_wp2_with (at_next; go_loud (refine wpList_next_ranges _ rfl _ rfl 9 gm_keyed slR encStr (fun (x : Value) => x) (fun key kl hk => by obtain ⟨x, hx, _⟩ := Maps.keyOf_str Tryz.underlying9 hk; exact ⟨x, hx⟩) (fun v _ _ => ⟨v, rfl⟩) b r n D _ _ rfl HRG.out ?_ ?_))
  ·intro hc0 hl0
   have HEND := Lib.hid (HC.out.2.perm HOWN.out gm_keyed Tryz.underlying9 hl0)
   obtain ⟨A3, c3, e3⟩ := Kd.R_slice HO.out
   obtain ⟨n3, hn3⟩ : ∃ n3, (ss.map ofL).length = n3 := ⟨_, rfl⟩
   rw [hn3] at e3
   subst e3
   have HSO := Aside0.mk (sort_str _ ss r _ wr HO.out (by have := HC.out.1; have := HSZ.out; have := HSD.out; omega))
   clear hc0 hl0 hn3
   go_wp2_with (go_at_call 49; with_reducible refine HSO.out.mono ?_; rintro e w9 ⟨rfl, hR9, hg9⟩; have HR9 := Aside0.mk hR9; have HG9 := Aside0.mk hg9; clear hR9 hg9)
   go_ret
   refine ⟨_, rfl, ?_, ?_⟩
   ·rw [HR.out, ← mergeSort_of_perm HEND.out]
    exact HR9.out
   ·rw [HR.out]
    exact HB.out.grown HG9.out (by rw [← HR.out]; exact HB.out.size) (fun k hk => Kd.R_base HO.out k hk)
  ·intro x c kl yd yp w2 cnt2 hkey hlk hv hat hrg2 hlt hg2 hs2 hen
   obtain ⟨x', ex, rfl, _⟩ := Maps.keyOf_str Tryz.underlying9 hkey
   obtain rfl : x = x' := encStr_inj ex
   have HCS := Lib.hid (HC.out.2.step hlk hat)
   have HLT := Lib.hid (show cnt2 < cnt ∧ ss.length + cnt ≤ sz from ⟨hlt, HC.out.1⟩)
   have HO2 := Aside0.mk (Kd.R_mono (ok' := fun _ => True) (Kd.R_grown (Kd.R_bound HO.out) hg2 (fun k hk => by obtain ⟨_, _, _, q, _, cells, hc⟩ := hk; exact ((rg_ne HRG.out (row := some k) (fun k' e => by cases e; exact ⟨cells, q, hc⟩)).2).symm)) (fun _ _ => trivial))
   have HB2 := Aside0.mk (HB.out.grown hg2 (by rw [← HR.out]; exact HB.out.size) (fun k hk => by rw [← Option.some.inj hk]; exact Nat.le_refl _))
   have HRG2 := Aside0.mk hrg2
   obtain ⟨A3, c3, e3⟩ := Kd.R_slice HO.out
   obtain ⟨n3, hn3⟩ : ∃ n3, (ss.map ofL).length = n3 := ⟨_, rfl⟩
   rw [hn3] at e3
   subst e3
   have HN3 := Lib.hid (show n3 = ss.length by rw [← hn3, List.length_map])
   obtain ⟨y, hy⟩ : ∃ y, (⟨x.toArray⟩ : ByteArray) = y := ⟨_, rfl⟩
   replace hen : (Instr.entry (.pointer (some ⟨r, 0, none⟩))).run Tryz.prog w2 = .ok (.tuple #[.string y, c]) w2 := by rw [← hy]; exact hen
   have HY := Lib.hid (show ofL x = y from hy)
   have ey : encStr x = .string y := by rw [← hy]
   rw [ey]
   clear hkey hlk hv hat hrg2 hlt hg2 hs2 HC HO HRG HB hn3 hy ex ey
   go_wp2_with (at_builtin; go_loud (refine Kd.R_append Kd.string (w0 := w) r rfl _ _ 35 9 (.string ⟨#[]⟩) 16 rfl hu30 str_map rfl (by decide) (by decide) (.slice A3 n3 c3) (ss.map ofL) y [.string y] (fun _ => True) (fun _ => False) rfl rfl rfl (fun _ h_ => h_.elim) (fun _ _ => trivial) HO2.out HB2.out (by rw [← HR.out]; exact HB2.out.size) ?hl ?hk))
   case hl => have h1 := HLT.out; have h2 := HSD.out; have h3 := HSZ.out; rw [List.length_map]; omega
   case hk =>
    intro v1 w4 ho hb hgr hat
    have hne := rg_ne HRG2.out (row := (Value.slice A3 n3 c3).ownBlock) (fun k e => by obtain ⟨cells, hc⟩ := Kd.R_typed HO2.out k e; exact ⟨cells, _, hc⟩)
    have HRG3 := Aside0.mk (HRG2.out.kept hgr hne.1 hne.2)
    have HO3 := Aside0.mk (show Kd.R Kd.string 9 w4 r (fun _ => True) v1 ((ss ++ [x]).map ofL) by rw [List.map_append, List.map_singleton, HY.out]; exact ho)
    have HB3 := Aside0.mk hb
    clear ho hb hgr hat hne HRG2 HO2 HB2 hen
    go_wp2_with fail
    go_roundg cnt2
    case measure => have := HLT.out; omega
    case rel => exact ⟨_, cnt2, ss ++ [x], Nat.le_refl _, HRG3, Lib.hid ⟨by have := HLT.out; rw [List.length_append, List.length_singleton]; omega, HCS.out⟩, HO3, HB3⟩

def ddk : List (List UInt8) → List (List UInt8)
 | [] => []
 | x :: r => if x ∈ ddk r then ddk r else x :: ddk r
theorem ddk_mem (x : List UInt8) : ∀ l, x ∈ ddk l ↔ x ∈ l
 | [] => by simp [ddk]
 | y :: r => by
  unfold ddk
  split
  ·rename_i h
   rw [ddk_mem x r, List.mem_cons]
   constructor
   ·exact .inr
   ·rintro (rfl | h2)
    ·exact (ddk_mem x r).1 h
    ·exact h2
  ·rw [List.mem_cons, List.mem_cons, ddk_mem x r]
theorem ddk_nodup : ∀ l, (ddk l).Nodup
 | [] => List.nodup_nil
 | y :: r => by
  unfold ddk
  split
  ·exact ddk_nodup r
  ·rename_i h
   exact List.nodup_cons.2 ⟨h, ddk_nodup r⟩
theorem gp_keys {w0 w : World} {b n : Nat} {D : DataW Unit} {V : List UInt8 → Value} {P : List (List UInt8 × S32)} (h : GMp w0 w b n D V (Gp P)) : (ddk (P.map (·.1))).Perm (strKeys D) := by
 obtain ⟨es, hD, hpw, _⟩ := h.own.entries gm_keyed
 obtain ⟨es', hD', hko⟩ := h.own.keysOf
 obtain rfl : es = es' := by rw [hD] at hD'; simpa using hD'
 have hh := h.has
 subst hD
 refine perm_strKeys hpw (fun p hp => by obtain ⟨v, hv⟩ := hko p hp; obtain ⟨x, _, hx, _⟩ := Maps.keyOf_str Tryz.underlying9 hv; exact ⟨x, hx⟩) (ddk_nodup _) (fun x => ?_)
 rw [hh x, ddk_mem]
 unfold Gp
 rw [ne_eq, List.map_eq_nil_iff, List.filter_eq_nil_iff, List.mem_map]
 constructor
 ·rintro ⟨p, hp, rfl⟩ hn
  exact hn p hp (by simp)
 ·intro hn
  apply Classical.byContradiction
  intro hc
  refine hn (fun p hp he => hc ⟨p, hp, ?_⟩)
  simpa using he
def spell_Taken.f (k : Nat) (l0 : List S41) : Option (List ByteArray) := (spell_spelled.f k l0).bind fun P => some (((ddk (P.map (·.1))).mergeSort fun x y => decide (x ≤ y)).map ofL)
theorem spell_Taken.mono : ∀ a0 k, LeO (spell_Taken.f k a0) (spell_Taken.f (k + 1) a0) := fun a0 k => LeO.bind (spell_spelled.mono a0 k) fun _ => LeO.refl _
set_option maxHeartbeats 2000000 in
set_option maxRecDepth 100000 in
theorem spell_Taken.calls (k : Nat) (A0 : Option Addr) (c0 : Nat) (l0 : List S41) (r : List ByteArray) (w : World) (hr0 : Kd.C k41 w A0 l0.length l0) (hc0 : l0.length ≤ c0) (h : spell_Taken.f k l0 = some r) :
  Calls Tryz.prog 12 #[.slice A0 l0.length c0] w fun e w' => ∃ v0_ : Value, e = .returned (v0_) ∧ Kd.R Kd.string 9 w' w.heap.size (fun _ => True) v0_ r ∧ Below w.heap.size w w' := by
 obtain ⟨P, hP, h⟩ := Option.bind_eq_some_iff.1 h
 obtain rfl := Option.some.inj h
 have HS := Aside0.mk (spell_spelled.calls k A0 c0 l0 P w hr0 hc0 hP)
 obtain ⟨m, hm⟩ : ∃ m, l0.length = m := ⟨_, rfl⟩
 rw [hm] at HS ⊢
 clear hr0 hc0 hP h hm
 go_enter Tryz.func12, Tryz.ntmps12
 go_wp2_with (go_at_call 17; with_reducible refine HS.out.mono ?_; rintro e w2 ⟨b, n, D, V, rfl, hn, hG⟩; have HG := Aside0.mk hG; have HR := Aside0.mk (rising_calls hG hn); clear hG hn)
 go_wp2_with fail
 refine HR.out.mono ?_
 rintro e w3 ⟨v, rfl, hR, hb⟩
 have HR3 := Aside0.mk hR
 have HB3 := Aside0.mk hb
 clear hR hb
 go_wp2_with fail
 go_ret
 refine ⟨_, rfl, ?_, below_step HG.out.below HB3.out⟩
 rw [mergeSort_of_perm (gp_keys HG.out)]
 exact Kd.R_lower HR3.out HG.out.below.size

/-! ### name_Space: function 38 -/
theorem sp_build_at {P : Program} {ops : Array Oper} {rest : List Oper} {o : Oper} {a : Act} {w : World} {Q : Exit → Act → World → Prop} (hg : o.guard = none) (t : TypeId) (parts : Array (Nat × Operand)) (ho : o.op = .build t parts)
  (c : Array Value) (hc : P.built t (parts.map fun (i, x) => (i, a.eval x)).toList = some c)
  (h : wpList P ops Q rest (a.put o.dst (.agg c)) w) : wpList P ops Q (o :: rest) a w := by
 refine wpList_build hg t parts ho (by rw [hc]; rfl) ?_
 rw [hc]
 exact h
theorem sp_store_new {P : Program} {ops : Array Oper} {rest : List Oper} {o : Oper} {a : Act} {w : World} {Q : Exit → Act → World → Prop} (hgd : o.guard = none) (ty : TypeId) (x v : Operand) (ho : o.op = .store ty x v)
  (c c' : Array Value) (g : Nat) (hx : a.eval x = .pointer (some ⟨g, 0, none⟩)) (hgs : g = w.heap.size) (hv : a.eval v = .agg c') (hd : o.dst = none)
  (hi : (P.info? ty).map (·.size) = some c'.size) (hs : c.size = c'.size) (h1 : c'.all (·.oneCell') = true)
  (h : wpList P ops Q rest a (w.alloc (.cells c' ty))) : wpList P ops Q (o :: rest) a (w.alloc (.cells c ty)) := by
 subst hgs
 refine wpList_store_row hgd ty x v ho w.heap.size c' hx hv ty c (heap_alloc_new w _) hi hs h1 ?_
 rw [World.setRow_alloc_new, hd]
 exact h
def spL : List ByteArray := [(⟨#[]⟩ : ByteArray), (⟨#[118, 97, 108, 117, 101]⟩ : ByteArray), (⟨#[99, 111, 110, 115, 116, 114, 117, 99, 116, 111, 114]⟩ : ByteArray), (⟨#[116, 121, 112, 101]⟩ : ByteArray), (⟨#[115, 116, 114, 117, 99, 116, 117, 114, 101]⟩ : ByteArray), (⟨#[115, 105, 103, 110, 97, 116, 117, 114, 101]⟩ : ByteArray), (⟨#[102, 117, 110, 99, 116, 111, 114]⟩ : ByteArray)]
def spA : Array Value := (spL.map Value.string).toArray
theorem sp_size : (Tryz.prog.info? 65).map (·.size) = some spA.size := by kernel_rfl
theorem sp_one : spA.all (·.oneCell') = true := by kernel_rfl
def name_Space.f (a0 : Int) : Option (ByteArray) := some (if a0 < 0 then ⟨#[]⟩ else (spL[a0.toNat]?).getD ⟨#[]⟩)
set_option maxHeartbeats 4000000 in
set_option maxRecDepth 100000 in
theorem name_Space.calls (a0 : Int) (r : ByteArray) (w : World) (h : name_Space.f a0 = some r) :
  Calls Tryz.prog 38 #[.int .i64 a0] w fun e w' => e = .returned (.string r) ∧ Below w.heap.size w w' := by
 have HB := Aside0.mk ((Below.refl w.heap.size w).alloc (Nat.le_refl _) (.cells spA 65))
 by_cases hn : a0 < 0
 ·obtain rfl : r = ⟨#[]⟩ := by simpa [name_Space.f, hn] using h.symm
  have c0 : decide (a0 < 0) = true := decide_eq_true hn
  clear h hn
  go_enter Tryz.func38, Tryz.ntmps38
  go_wp2_with (first | (refine sp_build_at rfl _ _ rfl spA (by as_aux_lemma => kernel_rfl) ?_) | (refine sp_store_new rfl _ _ _ rfl _ spA _ rfl ?hgs rfl rfl sp_size rfl sp_one ?_; (case hgs => simp)))
  go_ret
  exact ⟨rfl, HB.out⟩
 ·have c0 : decide (a0 < 0) = false := decide_eq_false hn
  by_cases h7 : 7 ≤ a0
  ·obtain rfl : r = ⟨#[]⟩ := by
    have : spL[a0.toNat]? = none := List.getElem?_eq_none (by simp [spL]; omega)
    simpa [name_Space.f, hn, this] using h.symm
   have c1 : decide (a0 ≥ 7) = true := decide_eq_true h7
   have c2 : decide (7 ≤ a0) = true := decide_eq_true h7
   clear h hn h7
   go_enter Tryz.func38, Tryz.ntmps38
   go_wp2_with (first | (refine sp_build_at rfl _ _ rfl spA (by as_aux_lemma => kernel_rfl) ?_) | (refine sp_store_new rfl _ _ _ rfl _ spA _ rfl ?hgs rfl rfl sp_size rfl sp_one ?_; (case hgs => simp)))
   go_ret
   exact ⟨rfl, HB.out⟩
  ·obtain ⟨i, hi⟩ : ∃ i : Nat, a0 = (i : Int) := ⟨a0.toNat, by omega⟩
   subst hi
   have hi : i < 7 := by omega
   have hr : (spL.map Value.string)[i]? = some (Value.string r) := by
    rw [List.getElem?_map]
    have : spL[i]? = some r := by
     have hl : i < spL.length := hi
     have h' := Option.some.inj h
     rw [if_neg hn, show ((i : Int)).toNat = i from rfl, List.getElem?_eq_getElem hl] at h'
     rw [List.getElem?_eq_getElem hl]
     exact congrArg some h'
    rw [this]; rfl
   have HE : spA[i]? = some (Value.string r) := by simpa [spA] using hr
   clear h hr
   have c1 : decide ((i : Int) ≥ 7) = false := decide_eq_false h7
   have c2 : decide (7 ≤ (i : Int)) = false := decide_eq_false h7
   have h0 : (0 : Int) ≤ (i : Int) := by omega
   have h1 : (i : Int) < 7 := by omega
   go_enter Tryz.func38, Tryz.ntmps38
   go_wp2_with (first | (refine sp_build_at rfl _ _ rfl spA (by as_aux_lemma => kernel_rfl) ?_) | (refine sp_store_new rfl _ _ _ rfl _ spA _ rfl ?hgs rfl rfl sp_size rfl sp_one ?_; (case hgs => simp)))
   go_ret
   exact ⟨rfl, HB.out⟩

/-! ### name_May: function 39 -/
def name_May.f (k : Nat) (a0 : Int) (a1 : ByteArray) : Option (Bool) := (name_Kind.f k a1).bind fun t152 => (if a0 = 1 then (if t152 = 6 then (some true) else (some (t152 == 9))) else (if a0 = 3 then (some (t152 == 6)) else (if a0 = 2 then (some (t152 == 7)) else (if a0 = 4 then (some (t152 == 7)) else (if a0 = 5 then (some (t152 == 7)) else (if a0 = 6 then (some (t152 == 7)) else (some false)))))))
theorem name_May.mono : ∀ a0 a1 k, LeO (name_May.f k a0 a1) (name_May.f (k + 1) a0 a1) := by
 intro a0 a1 k
 unfold name_May.f
 repeat' first
   | (with_reducible exact name_Kind.mono _ _)
   | (with_reducible exact LeO.refl _)
   | (with_reducible refine LeO.bind ?_ (fun _ => ?_))
set_option maxHeartbeats 8000000 in
set_option maxRecDepth 100000 in
theorem name_May.calls (k : Nat) (a0 : Int) (a1 : ByteArray) (r : Bool) (w : World) (h : name_May.f k a0 a1 = some r) :
  Calls Tryz.prog 39 #[.int .i64 a0, .string a1] w fun e w' => e = .returned (.bool r) ∧ Below w.heap.size w w' := by
 have HB := Aside0.mk (Below.refl w.heap.size w)
 have H : ((name_Kind.f k a1).bind fun t152 => (if a0 = 1 then (if t152 = 6 then (some true) else (some (t152 == 9))) else (if a0 = 3 then (some (t152 == 6)) else (if a0 = 2 then (some (t152 == 7)) else (if a0 = 4 then (some (t152 == 7)) else (if a0 = 5 then (some (t152 == 7)) else (if a0 = 6 then (some (t152 == 7)) else (some false)))))))) = some r := h
 clear h
 replace H := Option.bind_eq_some_iff.mp H
 obtain ⟨t152, A30, H⟩ := H
 replace H : (if a0 = 1 then (if t152 = 6 then (some true) else (some (t152 == 9))) else (if a0 = 3 then (some (t152 == 6)) else (if a0 = 2 then (some (t152 == 7)) else (if a0 = 4 then (some (t152 == 7)) else (if a0 = 5 then (some (t152 == 7)) else (if a0 = 6 then (some (t152 == 7)) else (some false))))))) = some r := H
 have A3 := Aside0.mk A30
 clear A30
 by_cases c4 : a0 = 1
 ·rw [if_pos c4] at H
  have c4b0 : (a0 == 1) = true := beq_iff_eq.mpr c4
  have c4b1 : (a0 != 1) = false := bne_eq_false_iff_eq.mpr c4
  clear c4
  by_cases c5 : t152 = 6
  ·rw [if_pos c5] at H
   have c5b0 : (t152 == 6) = true := beq_iff_eq.mpr c5
   have c5b1 : (t152 != 6) = false := bne_eq_false_iff_eq.mpr c5
   clear c5
   obtain rfl := Option.some.inj H
   go_enter Tryz.func39, Tryz.ntmps39
   go_wp2_with (((with_reducible refine gate_callee (f := 15) rfl ?_); refine goesL_ (some 7) rfl rfl Tryz.func15 (by kernel_rfl) rfl #[.string a1] rfl (by (try simp only [List.map_toArray, List.map_cons, List.map_nil]); rfl) ?_; (with_reducible refine (name_Kind.calls k a1 t152 _ A3.out).mono ?_); rintro e w6 ⟨rfl, hb⟩; refine ⟨_, rfl, ?_⟩; have n0_ := Aside0.mk (below_step (by repeat (with_reducible exact HB.out)) hb); clear HB; have HB := n0_; clear n0_; (try clear hb); (try clear hb2); (try clear hk); (try clear hi)))
   go_ret
   exact ⟨by rfl, by repeat (with_reducible exact HB.out)⟩
  ·rw [if_neg c5] at H
   have c5b0 : (t152 == 6) = false := beq_eq_false_iff_ne.mpr c5
   have c5b1 : (t152 != 6) = true := bne_iff_ne.mpr c5
   obtain rfl := Option.some.inj H
   go_enter Tryz.func39, Tryz.ntmps39
   go_wp2_with (((with_reducible refine gate_callee (f := 15) rfl ?_); refine goesL_ (some 7) rfl rfl Tryz.func15 (by kernel_rfl) rfl #[.string a1] rfl (by (try simp only [List.map_toArray, List.map_cons, List.map_nil]); rfl) ?_; (with_reducible refine (name_Kind.calls k a1 t152 _ A3.out).mono ?_); rintro e w7 ⟨rfl, hb⟩; refine ⟨_, rfl, ?_⟩; have n0_ := Aside0.mk (below_step (by repeat (with_reducible exact HB.out)) hb); clear HB; have HB := n0_; clear n0_; (try clear hb); (try clear hb2); (try clear hk); (try clear hi)))
   go_ret
   exact ⟨by rfl, by repeat (with_reducible exact HB.out)⟩
 ·rw [if_neg c4] at H
  have c4b0 : (a0 == 1) = false := beq_eq_false_iff_ne.mpr c4
  have c4b1 : (a0 != 1) = true := bne_iff_ne.mpr c4
  by_cases c8 : a0 = 3
  ·rw [if_pos c8] at H
   have c8b0 : (a0 == 3) = true := beq_iff_eq.mpr c8
   have c8b1 : (a0 != 3) = false := bne_eq_false_iff_eq.mpr c8
   clear c8
   obtain rfl := Option.some.inj H
   go_enter Tryz.func39, Tryz.ntmps39
   go_wp2_with (((with_reducible refine gate_callee (f := 15) rfl ?_); refine goesL_ (some 7) rfl rfl Tryz.func15 (by kernel_rfl) rfl #[.string a1] rfl (by (try simp only [List.map_toArray, List.map_cons, List.map_nil]); rfl) ?_; (with_reducible refine (name_Kind.calls k a1 t152 _ A3.out).mono ?_); rintro e w9 ⟨rfl, hb⟩; refine ⟨_, rfl, ?_⟩; have n0_ := Aside0.mk (below_step (by repeat (with_reducible exact HB.out)) hb); clear HB; have HB := n0_; clear n0_; (try clear hb); (try clear hb2); (try clear hk); (try clear hi)))
   go_ret
   exact ⟨by rfl, by repeat (with_reducible exact HB.out)⟩
  ·rw [if_neg c8] at H
   have c8b0 : (a0 == 3) = false := beq_eq_false_iff_ne.mpr c8
   have c8b1 : (a0 != 3) = true := bne_iff_ne.mpr c8
   by_cases c10 : a0 = 2
   ·rw [if_pos c10] at H
    have c10b0 : (a0 == 2) = true := beq_iff_eq.mpr c10
    have c10b1 : (a0 != 2) = false := bne_eq_false_iff_eq.mpr c10
    clear c10
    obtain rfl := Option.some.inj H
    go_enter Tryz.func39, Tryz.ntmps39
    go_wp2_with (((with_reducible refine gate_callee (f := 15) rfl ?_); refine goesL_ (some 7) rfl rfl Tryz.func15 (by kernel_rfl) rfl #[.string a1] rfl (by (try simp only [List.map_toArray, List.map_cons, List.map_nil]); rfl) ?_; (with_reducible refine (name_Kind.calls k a1 t152 _ A3.out).mono ?_); rintro e w11 ⟨rfl, hb⟩; refine ⟨_, rfl, ?_⟩; have n0_ := Aside0.mk (below_step (by repeat (with_reducible exact HB.out)) hb); clear HB; have HB := n0_; clear n0_; (try clear hb); (try clear hb2); (try clear hk); (try clear hi)))
    go_ret
    exact ⟨by rfl, by repeat (with_reducible exact HB.out)⟩
   ·rw [if_neg c10] at H
    have c10b0 : (a0 == 2) = false := beq_eq_false_iff_ne.mpr c10
    have c10b1 : (a0 != 2) = true := bne_iff_ne.mpr c10
    by_cases c12 : a0 = 4
    ·rw [if_pos c12] at H
     have c12b0 : (a0 == 4) = true := beq_iff_eq.mpr c12
     have c12b1 : (a0 != 4) = false := bne_eq_false_iff_eq.mpr c12
     clear c12
     obtain rfl := Option.some.inj H
     go_enter Tryz.func39, Tryz.ntmps39
     go_wp2_with (((with_reducible refine gate_callee (f := 15) rfl ?_); refine goesL_ (some 7) rfl rfl Tryz.func15 (by kernel_rfl) rfl #[.string a1] rfl (by (try simp only [List.map_toArray, List.map_cons, List.map_nil]); rfl) ?_; (with_reducible refine (name_Kind.calls k a1 t152 _ A3.out).mono ?_); rintro e w13 ⟨rfl, hb⟩; refine ⟨_, rfl, ?_⟩; have n0_ := Aside0.mk (below_step (by repeat (with_reducible exact HB.out)) hb); clear HB; have HB := n0_; clear n0_; (try clear hb); (try clear hb2); (try clear hk); (try clear hi)))
     go_ret
     exact ⟨by rfl, by repeat (with_reducible exact HB.out)⟩
    ·rw [if_neg c12] at H
     have c12b0 : (a0 == 4) = false := beq_eq_false_iff_ne.mpr c12
     have c12b1 : (a0 != 4) = true := bne_iff_ne.mpr c12
     by_cases c14 : a0 = 5
     ·rw [if_pos c14] at H
      have c14b0 : (a0 == 5) = true := beq_iff_eq.mpr c14
      have c14b1 : (a0 != 5) = false := bne_eq_false_iff_eq.mpr c14
      clear c14
      obtain rfl := Option.some.inj H
      go_enter Tryz.func39, Tryz.ntmps39
      go_wp2_with (((with_reducible refine gate_callee (f := 15) rfl ?_); refine goesL_ (some 7) rfl rfl Tryz.func15 (by kernel_rfl) rfl #[.string a1] rfl (by (try simp only [List.map_toArray, List.map_cons, List.map_nil]); rfl) ?_; (with_reducible refine (name_Kind.calls k a1 t152 _ A3.out).mono ?_); rintro e w15 ⟨rfl, hb⟩; refine ⟨_, rfl, ?_⟩; have n0_ := Aside0.mk (below_step (by repeat (with_reducible exact HB.out)) hb); clear HB; have HB := n0_; clear n0_; (try clear hb); (try clear hb2); (try clear hk); (try clear hi)))
      go_ret
      exact ⟨by rfl, by repeat (with_reducible exact HB.out)⟩
     ·rw [if_neg c14] at H
      have c14b0 : (a0 == 5) = false := beq_eq_false_iff_ne.mpr c14
      have c14b1 : (a0 != 5) = true := bne_iff_ne.mpr c14
      by_cases c16 : a0 = 6
      ·rw [if_pos c16] at H
       have c16b0 : (a0 == 6) = true := beq_iff_eq.mpr c16
       have c16b1 : (a0 != 6) = false := bne_eq_false_iff_eq.mpr c16
       clear c16
       obtain rfl := Option.some.inj H
       go_enter Tryz.func39, Tryz.ntmps39
       go_wp2_with (((with_reducible refine gate_callee (f := 15) rfl ?_); refine goesL_ (some 7) rfl rfl Tryz.func15 (by kernel_rfl) rfl #[.string a1] rfl (by (try simp only [List.map_toArray, List.map_cons, List.map_nil]); rfl) ?_; (with_reducible refine (name_Kind.calls k a1 t152 _ A3.out).mono ?_); rintro e w17 ⟨rfl, hb⟩; refine ⟨_, rfl, ?_⟩; have n0_ := Aside0.mk (below_step (by repeat (with_reducible exact HB.out)) hb); clear HB; have HB := n0_; clear n0_; (try clear hb); (try clear hb2); (try clear hk); (try clear hi)))
       go_ret
       exact ⟨by rfl, by repeat (with_reducible exact HB.out)⟩
      ·rw [if_neg c16] at H
       have c16b0 : (a0 == 6) = false := beq_eq_false_iff_ne.mpr c16
       have c16b1 : (a0 != 6) = true := bne_iff_ne.mpr c16
       obtain rfl := Option.some.inj H
       go_enter Tryz.func39, Tryz.ntmps39
       go_wp2_with (((with_reducible refine gate_callee (f := 15) rfl ?_); refine goesL_ (some 7) rfl rfl Tryz.func15 (by kernel_rfl) rfl #[.string a1] rfl (by (try simp only [List.map_toArray, List.map_cons, List.map_nil]); rfl) ?_; (with_reducible refine (name_Kind.calls k a1 t152 _ A3.out).mono ?_); rintro e w18 ⟨rfl, hb⟩; refine ⟨_, rfl, ?_⟩; have n0_ := Aside0.mk (below_step (by repeat (with_reducible exact HB.out)) hb); clear HB; have HB := n0_; clear n0_; (try clear hb); (try clear hb2); (try clear hk); (try clear hi)))
       go_ret
       exact ⟨by rfl, by repeat (with_reducible exact HB.out)⟩

/-! ### strconv_Itoa_40: function 40 -/
theorem tab_below {w w' : World} (h : Lib.TabIs Tryz.prog w "internal/strconv.uint64pow10" .u64 Lib.pow10Tab) (hb : Below w.heap.size w w') : Lib.TabIs Tryz.prog w' "internal/strconv.uint64pow10" .u64 Lib.pow10Tab := by
 unfold Lib.TabIs World.var? at h ⊢
 revert h
 cases hg : Tryz.prog.globalNamed "internal/strconv.uint64pow10" with
 | none => intro h; cases h
 | some g =>
  intro h
  simp only [Option.bind_some] at h ⊢
  have hlt : g < w.heap.size := by
   rcases Nat.lt_or_ge g w.heap.size with h' | h'
   ·exact h'
   ·rw [Array.getElem?_eq_none h'] at h; cases h
  rw [hb.block g hlt]
  exact h
def strconv_Itoa_40.f (a0 : Int) : Option ByteArray := if 0 ≤ a0 then (if a0 ≤ 1000000 then some ⟨(Lib.itoa a0).toArray⟩ else none) else none
theorem strconv_Itoa_40.calls (a0 : Int) (r : ByteArray) (w : World) (h : strconv_Itoa_40.f a0 = some r) (htab : Lib.TabIs Tryz.prog w "internal/strconv.uint64pow10" .u64 Lib.pow10Tab) :
  Calls Tryz.prog 40 #[.int .i64 a0] w fun e w' => e = .returned (.string r) ∧ Below w.heap.size w w' := by
 unfold strconv_Itoa_40.f at h
 by_cases h0 : 0 ≤ a0
 case neg => rw [if_neg h0] at h; cases h
 by_cases h1 : a0 ≤ 1000000
 case neg => rw [if_pos h0, if_neg h1] at h; cases h
 rw [if_pos h0, if_pos h1] at h
 obtain rfl := Option.some.inj h
 refine (Tryz.strconv_Itoa a0 (by omega) (by omega) w htab).mono ?_
 rintro e w' ⟨rfl, k, os, rfl⟩
 refine ⟨rfl, ⟨rfl, rfl, rfl, ?_, fun i hi => ?_⟩⟩
 ·unfold Sort.grow
  dsimp only
  rw [Array.size_append]
  exact Nat.le_add_right _ _
 ·unfold Sort.grow
  dsimp only
  exact Array.getElem?_append_left hi

end Go.Proofs.YtfccifekaokibaaGreatDoor.QT

