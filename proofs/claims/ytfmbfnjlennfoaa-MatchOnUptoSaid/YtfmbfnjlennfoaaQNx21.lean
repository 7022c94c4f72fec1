/- Environments of bindings; match.Match, walked. -/
import Derived.Test.YtfmbfnjlennfoaaQNx20
namespace Go.Proofs.Ytfmbfnjlennfoaa.QN
open Go.RowKit Go.Proofs.YtfmbfnjlennfoaaW.PrintWords Go.Proofs.YtfmbfnjlennfoaaW.PrintLast Go.Proofs.YtfmbfnjlennfoaaW.PrintMore
attribute [local go_sem] max2_int min2_int max_two min_two max_three min_three max_four min_four   -- for this text's walks alone
set_option linter.unusedVariables false
set_option linter.unusedSimpArgs false
/-! #### an environment of bindings -/
mutual
def mkB (U : En) : S33 → En
  | ⟨sp, nm, dl, via, pa, pm⟩ => .node U sp nm dl via (mkL .nil pa) (mkL .nil pm)
def mkL : En → List S33 → En
  | U, [] => U
  | U, b :: r => mkL (mkB U b) r
end
mutual
def szB : S33 → Nat
  | ⟨_, _, _, _, pa, pm⟩ => szL pa + szL pm + 1
def szL : List S33 → Nat
  | [] => 0
  | b :: r => szB b + szL r
end
theorem mkL_snoc (b : S33) : ∀ (l : List S33) (U : En), mkL U (l ++ [b]) = mkB (mkL U l) b
  | [], U => by rw [List.nil_append]; simp only [mkL]
  | a :: r, U => by rw [List.cons_append]; simp only [mkL]; exact mkL_snoc b r (mkB U a)
theorem szB_le {b : S33} : ∀ {l : List S33}, b ∈ l → szB b ≤ szL l
  | [], h => by cases h
  | a :: r, h => by
    rcases List.mem_cons.1 h with rfl | h
    · simp only [szL]; omega
    · have := szB_le (l := r) h
      simp only [szL]; omega
theorem szL_len : ∀ (l : List S33), l.length ≤ szL l
  | [] => Nat.le_refl _
  | ⟨_, _, _, _, pa, pm⟩ :: r => by
    have := szL_len r
    simp only [szL, szB, List.length_cons]
    omega
set_option maxHeartbeats 8000000 in
set_option maxRecDepth 100000 in
theorem made_calls (k : Nat) : ∀ (l : List S33), szL l < k → ∀ (w : World) (A : Option Addr) (c : Nat), Kd.C k33 w A l.length l → l.length ≤ c → ∀ (E : En) (p : Option Addr), EnAt w E p →
    Calls Try.prog 8 #[.pointer p, .slice A l.length c] w fun e w' => ∃ p' : Option Addr, e = .returned (.pointer p') ∧ EnAt w' (mkL E l) p' ∧ Below w.heap.size w w' := by
  induction k with
  | zero => intro l hl; exact absurd hl (Nat.not_lt_zero _)
  | succ k ih =>
  intro l hl w A c hC hc E p hE
  have hu33 := Try.underlying33
  have hu22 := Try.underlying22
  have hu30 := Try.underlying30
  have hu27 := Try.underlying27
  have hu51 := Try.underlying51
  have hlen := szL_len l
  obtain ⟨n, hn⟩ : ∃ n, l.length = n := ⟨_, rfl⟩
  rw [hn] at hC hc hlen ⊢
  have HN := Lib.hid (show l.length = n from hn)
  have HC := Aside0.mk hC
  have HL := Lib.hid hl
  have HE0 := Aside0.mk hE
  have hnm : n ≤ 9223372036854775807 := hC.2.1
  clear hn hC hl hE hc hlen
  go_enter Try.func8, Try.ntmps8
  go_wp2
  go_loopg [0, 6, 9] n (fun gg s0 _ s9 wr => ∃ (j : Nat) (q : Option Addr), s0 = .pointer q ∧ s9 = .int .i64 j ∧ j ≤ n ∧ n - j = gg ∧ Aside0 (EnAt wr (mkL E (l.take j)) q) ∧ Aside0 (Below w.heap.size w wr))
  case atStart => exact ⟨0, p, rfl, rfl, Nat.zero_le _, rfl, HE0, ⟨Below.refl _ _⟩⟩
  case round =>
    clear HE0
    obtain ⟨j, q, rfl, rfl, hj, hgg, HE, HB⟩ := hrel
    by_cases hlt : j < n
    · have hltz : (j : Int) < (n : Int) := by omega
      have hjl : j < l.length := by rw [HN.out]; exact hlt
      have hat := at_T33 (Kd.C_below HC.out HB.out) (j : Int) (by omega) hltz
      have hrd : rd_T33 l (j : Int) = l[j] := by
        unfold rd_T33
        rw [Int.toNat_natCast, List.getD_eq_getElem?_getD, List.getElem?_eq_getElem hjl]
        rfl
      have hszj := szB_le (List.getElem_mem hjl)
      have htk : l.take (j + 1) = l.take j ++ [l[j]] := by rw [List.take_add_one, List.getElem?_eq_getElem hjl]; rfl
      have hmk : mkL E (l.take (j + 1)) = mkB (mkL E (l.take j)) l[j] := by rw [htk, mkL_snoc]
      rw [hrd] at hat
      obtain ⟨ad, A4, c4, A5, c5, rfl, x0, x1, x2, x3, x4, x5, l4, C4, l5, C5⟩ := hat
      rw [Int.toNat_natCast] at x0 x1 x2 x3 x4 x5
      generalize l[j] = b at x0 x1 x2 x3 x4 x5 l4 C4 l5 C5 hszj hmk
      obtain ⟨sp, nm, dl, via, pa, pm⟩ := b
      dsimp only at x0 x1 x2 x3 x4 x5 l4 C4 l5 C5
      have hsz : szL pa < k ∧ szL pm < k := by
        have h := HL.out
        simp only [szB] at hszj
        omega
      have HMK := Lib.hid hmk
      obtain ⟨n4, hn4⟩ : ∃ n4, pa.length = n4 := ⟨_, rfl⟩
      obtain ⟨n5, hn5⟩ : ∃ n5, pm.length = n5 := ⟨_, rfl⟩
      have HIA := Aside0.mk (fun (W : World) (hb : Below wr.heap.size wr W) => ih pa hsz.1 W A4 c4 (Kd.C_below C4 hb) l4 .nil none rfl)
      have HIM := Aside0.mk (fun (W : World) (hb : Below wr.heap.size wr W) => ih pm hsz.2 W A5 c5 (Kd.C_below C5 hb) l5 .nil none rfl)
      rw [hn4] at x4 HIA
      rw [hn5] at x5 HIM
      clear hrd htk hmk hszj hsz l4 C4 l5 C5 hn4 hn5 hjl
      go_wp2_with fail
      obtain ⟨W1, hW1⟩ : ∃ W1, wr.alloc (.cells #[.int .i64 sp, .string nm, .int .i64 dl, .int .i64 via, .slice A4 n4 c4, .slice A5 n5 c5] 33) = W1 := ⟨_, rfl⟩
      rw [hW1]
      have hB1 : Below wr.heap.size wr W1 := by rw [← hW1]; exact below_alloc (Below.refl _ _) _
      have hZ1 : W1.heap[wr.heap.size]? = some (.cells #[.int .i64 sp, .string nm, .int .i64 dl, .int .i64 via, .slice A4 n4 c4, .slice A5 n5 c5] 33 (0, 0)) := by rw [← hW1]; exact blk_new wr _
      have HBD := Aside0.mk (show Below wr.heap.size wr W1.drew ∧ Below W1.heap.size W1 W1.drew from ⟨below_drew hB1, below_drew (Below.refl _ _)⟩)
      have HKEEP := Aside0.mk (fun (W : World) (hb : Below W1.heap.size W1 W) => (show W.cell? ⟨wr.heap.size, 0, none⟩ = some (.int .i64 sp) ∧ W.cell? ⟨wr.heap.size, 1, none⟩ = some (.string nm) ∧ W.cell? ⟨wr.heap.size, 2, none⟩ = some (.int .i64 dl) ∧ W.cell? ⟨wr.heap.size, 3, none⟩ = some (.int .i64 via) ∧ W.cell? ⟨wr.heap.size, 4, none⟩ = some (.slice A4 n4 c4) ∧ W.cell? ⟨wr.heap.size, 5, none⟩ = some (.slice A5 n5 c5) from by
        have h := (hb.block _ (blk_lt hZ1)).trans hZ1
        exact ⟨(blk_cell h 0).trans rfl, (blk_cell h 1).trans rfl, (blk_cell h 2).trans rfl, (blk_cell h 3).trans rfl, (blk_cell h 4).trans rfl, (blk_cell h 5).trans rfl⟩))
      have HB1 := Aside0.mk hB1
      clear hB1 hZ1 hW1 x0 x1 x2 x3 x4 x5
      go_region_held3 (fun w' => Below W1.heap.size W1 w' ∧ (w'.cell? ⟨wr.heap.size, 0, none⟩ = some (.int .i64 sp) ∧ w'.cell? ⟨wr.heap.size, 1, none⟩ = some (.string nm) ∧ w'.cell? ⟨wr.heap.size, 2, none⟩ = some (.int .i64 dl) ∧ w'.cell? ⟨wr.heap.size, 3, none⟩ = some (.int .i64 via) ∧ w'.cell? ⟨wr.heap.size, 4, none⟩ = some (.slice A4 n4 c4) ∧ w'.cell? ⟨wr.heap.size, 5, none⟩ = some (.slice A5 n5 c5)))
        (first | with_reducible exact ⟨HBW.out, HKEEP.out _ HBW.out⟩ | with_reducible exact ⟨HBD.out.2, HKEEP.out _ HBD.out.2⟩)
        (first
          | (go_at_call 8; with_reducible refine (HIA.out _ HBD.out.1).mono ?_; rintro e w9 ⟨pA, rfl, hA9, hb9⟩; have HBW := Aside0.mk (below_step HBD.out.2 hb9); have HA := Aside0.mk hA9; clear hb9 hA9)
          | (go_at_call 8; with_reducible refine (HIM.out _ (below_step HB1.out HBW.out)).mono ?_; rintro e w10 ⟨pM, rfl, hM10, hb10⟩; have HA_ := Aside0.mk (en_below hb10 HA.out); have HBW_ := Aside0.mk (below_step HBW.out hb10); have HM := Aside0.mk hM10; clear HA HBW hb10 hM10; have HA := HA_; have HBW := HBW_; clear HA_ HBW_)
          | (go_at_call 19; with_reducible refine (env_with _ _ _ _ _ _ _ _).mono ?_; rintro e w11 ⟨g, rfl, hg11, hc11, hb11⟩; have HG := Aside0.mk hc11; have HN11 := Aside0.mk (env_node hc11 hb11 (en_below (below_step HB1.out HBW.out) HE.out) HA.out HM.out); have HBW_ := Aside0.mk (below_step HBW.out hb11); clear HBW hg11 hc11 hb11; have HBW := HBW_; clear HBW_))
      all_goals
        have HBN := Aside0.mk (below_step HB.out (below_step HB1.out HBW.out))
        go_wp2_with fail
        go_roundg (n - (j + 1))
        case measure => omega
        case rel => exact ⟨j + 1, _, rfl, by go_num, by omega, rfl, ⟨by rw [HMK.out]; exact HN11.out⟩, HBN⟩
    · obtain rfl : j = n := by omega
      go_wp2
      go_ret
      have he := HE.out
      rw [List.take_of_length_le (Nat.le_of_eq HN.out)] at he
      exact ⟨q, rfl, he, HB.out⟩
/-! #### a structure against a signature -/
def pairIf (a b : Int) : List S42 := if a = b then [] else [⟨a, b⟩]
def mLoop (f : En → En → Option (List S42 × Option EKey)) (S H : En) : List EKey → Option (List S42 × Option EKey)
  | [] => some ([], none)
  | k :: r => match findE H k, findE S k with
    | none, _ => some ([], some k)
    | some _, none => none
    | some x, some y => if k.1 = 4 then
        (match f y.2.2.1 x.2.2.1 with
        | none => none
        | some (l, some m) => some (pairIf y.1 x.1 ++ l, some m)
        | some (l, none) => (mLoop f S H r).bind fun u => some ((pairIf y.1 x.1 ++ l) ++ u.1, u.2))
      else (mLoop f S H r).bind fun u => some (pairIf y.1 x.1 ++ u.1, u.2)
def matchF : Nat → En → En → Option (List S42 × Option EKey)
  | 0, _, _ => none
  | k + 1, S, H => if S.len ≤ 4000000 then mLoop (matchF k) S H (keysE S) else none
theorem pair_info : (Try.prog.info? 42).map (fun i => (i.zero, i.size, i.bytes)) = some (some (.agg #[.int .i64 0, .int .i64 0]), 2, 16) := by kernel_rfl
theorem pair_tok (w : World) (base : Nat) (ok : Nat → Prop) (a b : Int) : k42.M w base ok ⟨a, b⟩ [.int .i64 a, .int .i64 b] := ⟨[.int .i64 a], [.int .i64 b], rfl, rfl, rfl⟩
/-- The links so far and the key that is missed, in their boxes; the closure in its own. -/
def MSt (w0 W : World) (bm bl ba : Nat) (mk : EKey) (ys : List S42) : Prop :=
  ∃ v, W.heap[bl]? = some (.cells #[v] 25 (0, 0)) ∧ w0.heap.size ≤ bl ∧ Kd.R k42 42 W w0.heap.size (fun _ => True) v ys ∧ Below w0.heap.size w0 W ∧
    W.heap[bm]? = some (.cells #[.int .i64 mk.1, .string mk.2] 27 (0, 0)) ∧ w0.heap.size ≤ bm ∧
    W.heap[ba]? = some (.cells #[.func (.func 16) #[] #[.pointer (some ⟨bm, 0, none⟩), .pointer (some ⟨bl, 0, none⟩), .pointer (some ⟨ba, 0, none⟩)]] 47 (0, 0))
theorem MSt.below {w0 W W1 : World} {bm bl ba : Nat} {mk : EKey} {ys : List S42} (h : MSt w0 W bm bl ba mk ys) (hb : Below W.heap.size W W1) : MSt w0 W1 bm bl ba mk ys := by
  obtain ⟨v, h1, h2, h3, h4, h5, h6, h7⟩ := h
  exact ⟨v, (hb.block _ (blk_lt h1)).trans h1, h2, Kd.R_below h3 hb, below_step h4 hb, (hb.block _ (blk_lt h5)).trans h5, h6, (hb.block _ (blk_lt h7)).trans h7⟩
/-- All but the two boxes and blocks of links stays. -/
def MKeep (W W1 : World) (bm bl : Nat) : Prop := W.heap.size ≤ W1.heap.size ∧ ∀ (k : Nat) (cells : Array Value) (q : Nat), W.heap[k]? = some (.cells cells q (0, 0)) → q ≠ 42 → k ≠ bm → k ≠ bl → W1.heap[k]? = some (.cells cells q (0, 0))
theorem MKeep.refl (W : World) (bm bl : Nat) : MKeep W W bm bl := ⟨Nat.le_refl _, fun _ _ _ h _ _ _ => h⟩
theorem MKeep.trans {A B C : World} {bm bl : Nat} (h : MKeep A B bm bl) (k : MKeep B C bm bl) : MKeep A C bm bl := ⟨Nat.le_trans h.1 k.1, fun i c q hi hq h1 h2 => k.2 i c q (h.2 i c q hi hq h1 h2) hq h1 h2⟩
theorem MKeep.below {W W1 : World} {bm bl : Nat} (hb : Below W.heap.size W W1) : MKeep W W1 bm bl := ⟨hb.size, fun k _ _ h _ _ _ => (hb.block k (blk_lt h)).trans h⟩
theorem MKeep.set_bm {W : World} {bm bl j : Nat} {v : Value} : MKeep W (W.setCell ⟨bm, j, none⟩ v) bm bl := ⟨by simp, fun k c q h _ h1 _ => blk_far h h1 v⟩
theorem MKeep.set_bl {W : World} {bm bl j : Nat} {v : Value} : MKeep W (W.setCell ⟨bl, j, none⟩ v) bm bl := ⟨by simp, fun k c q h _ _ h2 => blk_far h h2 v⟩
theorem MKeep.grown {W W1 : World} {bm bl base : Nat} {ok : Nat → Prop} {v : Value} {ys : List S42} (hR : Kd.R k42 42 W base ok v ys) (hg : W.grownBy W1 v.ownBlock) : MKeep W W1 bm bl :=
  ⟨hg.size, fun k c q h hq _ _ => (hg.block k (blk_lt h) (fun e => by
    obtain ⟨_, inner, hown, _⟩ := hR
    obtain ⟨cells, hc⟩ := own_typed hown k e.symm
    rw [h] at hc
    injection hc with hc
    injection hc with _ hc _
    exact hq hc)).trans h⟩
theorem MKeep.ek {w0 W W1 : World} {bm bl ba : Nat} {mk : EKey} {ys : List S42} (hs : MSt w0 W bm bl ba mk ys) (h : MKeep W W1 bm bl) : EKeep W W1 := by
  obtain ⟨v, h1, h2, h3, h4, h5, h6, h7⟩ := hs
  exact ⟨h.1, fun k cs hk => h.2 k cs _ hk (by decide) (blk_ne hk h5 (by decide)) (blk_ne hk h1 (by decide))⟩
/-- A row of keys, made behind the boxes. -/
theorem MKeep.keys {w0 W W1 : World} {bm bl ba base : Nat} {mk : EKey} {ys : List S42} {v : Value} {ks : List EKey} (hs : MSt w0 W bm bl ba mk ys) (hbm : bm < base) (h : MKeep W W1 bm bl) (hR : kkey.R 27 W base (fun _ => True) v ks) : kkey.R 27 W1 base (fun _ => True) v ks := by
  obtain ⟨v0, h1, h2, h3, h4, h5, h6, h7⟩ := hs
  refine Kd.R_mono (Kd.R_step (Kd.R_bound hR) (fun k hk hlt => ?_)) (fun _ hk => hk.1)
  obtain ⟨_, hb, _, q, hq, cells, hc⟩ := hk
  have hq1 : q = 27 := by
    rcases List.mem_cons.1 hq with rfl | hq
    · rfl
    · cases hq
  subst hq1
  rw [hc]
  exact h.2 k cells _ hc (by decide) (by omega) (blk_ne hc h1 (by decide))
theorem MSt.bm_lt {w0 W : World} {bm bl ba : Nat} {mk : EKey} {ys : List S42} (h : MSt w0 W bm bl ba mk ys) : bm < W.heap.size ∧ bl < W.heap.size ∧ ba < W.heap.size := by
  obtain ⟨v, h1, h2, h3, h4, h5, h6, h7⟩ := h
  exact ⟨blk_lt h5, blk_lt h1, blk_lt h7⟩
/-- The key that is missed is told. -/
theorem MSt.miss {w0 W : World} {bm bl ba : Nat} {mk : EKey} {ys : List S42} (h : MSt w0 W bm bl ba mk ys) (a : Int) (s : ByteArray) : MSt w0 ((W.setCell ⟨bm, 0, none⟩ (.int .i64 a)).setCell ⟨bm, 1, none⟩ (.string s)) bm bl ba (a, s) ys := by
  obtain ⟨v, h1, h2, h3, h4, h5, h6, h7⟩ := h
  have h8 := blk_put h5 0 (.int .i64 a) rfl
  have n1 : bl ≠ bm := blk_ne h1 h5 (by decide)
  have n2 : ba ≠ bm := blk_ne h7 h5 (by decide)
  have hE : ∀ q, q ∈ 42 :: k42.E → q ≠ 27 := by
    intro q hq
    rcases List.mem_cons.1 hq with rfl | hq
    · decide
    · cases hq
  exact ⟨v, blk_far (blk_far h1 n1 _) n1 _, h2, Kd.R_set (Kd.R_set h3 h5 hE 0 _) h8 hE 1 _, below_set (below_set h4 h6) h6, blk_put h8 1 _ rfl, h6, blk_far (blk_far h7 n2 _) n2 _⟩
/-- A link is put to the others. -/
theorem MSt.link {w0 W W1 : World} {bm bl ba : Nat} {mk : EKey} {ys zs : List S42} {v v1 : Value} (h : MSt w0 W bm bl ba mk ys) (hv : W.heap[bl]? = some (.cells #[v] 25 (0, 0))) (hR : Kd.R k42 42 W1 w0.heap.size (fun _ => True) v1 zs) (hb : Below w0.heap.size W W1) (hg : W.grownBy W1 v.ownBlock) :
    MSt w0 (W1.setCell ⟨bl, 0, none⟩ v1) bm bl ba mk zs ∧ MKeep W (W1.setCell ⟨bl, 0, none⟩ v1) bm bl ∧ W1.heap[bl]? = some (.cells #[v] 25 (0, 0)) := by
  obtain ⟨v', h1, h2, h3, h4, h5, h6, h7⟩ := h
  rw [h1] at hv
  injection hv with hv
  injection hv with hv _ _
  injection hv with hv
  injection hv with hv _
  subst hv
  have hk : MKeep W W1 bm bl := MKeep.grown h3 hg
  have nb : ∀ (k : Nat) (cs : Array Value) (q : Nat), W.heap[k]? = some (.cells cs q (0, 0)) → q ≠ 42 → W1.heap[k]? = some (.cells cs q (0, 0)) := fun k cs q hk hq => (hg.block k (blk_lt hk) (fun e => by
    obtain ⟨_, inner, hown, _⟩ := h3
    obtain ⟨cells, hc⟩ := own_typed hown k e.symm
    rw [hk] at hc
    injection hc with hc
    injection hc with _ hc _
    exact hq hc)).trans hk
  have k1 := nb _ _ _ h1 (by decide)
  have k5 := nb _ _ _ h5 (by decide)
  have k7 := nb _ _ _ h7 (by decide)
  have hE : ∀ q, q ∈ 42 :: k42.E → q ≠ 25 := by
    intro q hq
    rcases List.mem_cons.1 hq with rfl | hq
    · decide
    · cases hq
  exact ⟨⟨v1, blk_put k1 0 _ rfl, h2, Kd.R_set hR k1 hE 0 _, below_set (h4.trans hb) h2, blk_far k5 (blk_ne h5 h1 (by decide)) _, h6, blk_far k7 (blk_ne h7 h1 (by decide)) _⟩, hk.trans MKeep.set_bl, k1⟩
theorem findE_ok : ∀ {E : En} {k : EKey} {x : Int × Int × En × En}, E.ok → findE E k = some x → x.2.2.1.ok ∧ x.2.2.2.ok
  | .nil, _, _, _, h => by cases h
  | .node up sp nm dl via pa pm, k, x, ho, h => by
    rw [findE_node] at h
    by_cases he : (sp, nm) = k
    · rw [if_pos he] at h
      obtain rfl := Option.some.inj h
      exact ho.2.2
    · rw [if_neg he] at h
      exact findE_ok ho.2.1 h

theorem visR_find : ∀ (E : En) (S : List EKey) (N : En), N ∈ visR E S → ∃ x, findE E N.key = some x
  | .nil, _, N, h => by cases h
  | .node up sp nm dl via pa pm, S, N, h => by
    rw [findE_node]
    by_cases he : (sp, nm) = N.key
    · rw [if_pos he]; exact ⟨_, rfl⟩
    · rw [if_neg he]
      rw [visR_node] at h
      rcases List.mem_append.1 h with h | h
      · split at h
        · cases h
        · rw [List.mem_singleton.1 h] at he
          exact absurd rfl he
      · exact visR_find up _ N h
theorem keysE_find {E : En} {k : EKey} (h : k ∈ keysE E) : ∃ x, findE E k = some x := by
  unfold keysE at h
  obtain ⟨N, hN, rfl⟩ := List.mem_map.1 h
  unfold visE at hN
  exact visR_find E [] N (List.mem_reverse.1 hN)
theorem kkey_open {w : World} {x : EKey} {cs : List Value} (h : kkey.K w x cs) : cs = [.int .i64 x.1, .string x.2] := by
  obtain ⟨_, _, rfl, rfl, rfl⟩ := h
  rfl
theorem at_key {w : World} {A : Option Addr} {n : Nat} {xs : List EKey} (h : kkey.C w A n xs) (j : Nat) (hj : j < xs.length) (h1 : (j : Int) < n) : ∃ ad, A = some ad ∧ w.cell? (ad.add (j * 2)) = some (.int .i64 xs[j].1) ∧ w.cell? ⟨(ad.add (j * 2)).block, (ad.add (j * 2)).off + 1, none⟩ = some (.string xs[j].2) := by
  obtain ⟨ad, c, e, _, hK, hc0⟩ := Kd.C_get h ((0, ⟨#[]⟩) : EKey) (j : Int) (by omega) h1
  have hrd : xs.getD (j : Int).toNat ((0, ⟨#[]⟩) : EKey) = xs[j] := by
    rw [Int.toNat_natCast, List.getD_eq_getElem?_getD, List.getElem?_eq_getElem hj]
    rfl
  rw [hrd] at hK
  have hc : ∀ i u, c[i]? = some u → w.cell? (ad.add (j * 2 + i)) = some u := by
    intro i u hu
    have := hc0 i u hu
    rwa [Int.toNat_natCast] at this
  obtain rfl := kkey_open hK
  exact ⟨ad, e, hc 0 _ rfl, by rw [← add_field _ _ 1 (by omega)]; exact hc 1 _ rfl⟩
set_option maxHeartbeats 16000000 in
set_option maxRecDepth 100000 in
theorem match_walk (k : Nat) : ∀ (S H : En) (l : List S42) (m : Option EKey), matchF k S H = some (l, m) → ∀ (w0 W : World) (pS pH : Option Addr) (bm bl ba : Nat) (mk : EKey) (xs : List S42), EnAt W S pS → EnAt W H pH → S.ok → MSt w0 W bm bl ba mk xs → xs.length + l.length ≤ 4000000 →
    Calls Try.prog 16 #[.pointer pS, .pointer pH, .pointer (some ⟨bm, 0, none⟩), .pointer (some ⟨bl, 0, none⟩), .pointer (some ⟨ba, 0, none⟩)] W fun e w' => e = .returned (.bool m.isNone) ∧ MSt w0 w' bm bl ba (m.getD mk) (xs ++ l) ∧ MKeep W w' bm bl := by
  induction k with
  | zero => intro S H l m h; cases h
  | succ k ih =>
  intro S H l m h w0 W pS pH bm bl ba mk xs hS hH hok hst hlen
  have hu27 := Try.underlying27
  have hu48 := Try.underlying48
  have hu51 := Try.underlying51
  have hu30 := Try.underlying30
  have hu42 := Try.underlying42
  have hu25 := Try.underlying25
  unfold matchF at h
  by_cases hl4 : S.len ≤ 4000000
  case neg => rw [if_neg hl4] at h; cases h
  rw [if_pos hl4] at h
  have HKC := Aside0.mk (keys_calls hS hok hl4)
  have HKL := Lib.hid (show (keysE S).length ≤ 4000000 from by unfold keysE; rw [List.length_map]; exact Nat.le_trans (visE_len S) hl4)
  have HOK := Lib.hid hok
  have HLEN := Lib.hid hlen
  have hbml := hst.bm_lt
  have HBM := Lib.hid hbml
  have HL0 := Lib.hid (show mLoop (matchF k) S H (keysE S) = some (l, m) ∧ xs ++ l = xs ++ l from ⟨h, rfl⟩)
  have HS0 := Aside0.mk hS
  have HH0 := Aside0.mk hH
  have HM0 := Aside0.mk hst
  clear h hS hH hok hst hlen hl4 hbml
  go_enter Try.func16, Try.ntmps16
  go_wp2_with fail
  refine HKC.out.mono ?_
  rintro e w1 ⟨vk, rfl, hR1, hb1⟩
  obtain ⟨Ak, ck, rfl⟩ := Kd.R_slice hR1
  obtain ⟨n, hn⟩ : ∃ n, (keysE S).length = n := ⟨_, rfl⟩
  rw [hn] at hR1 ⊢
  have HN := Lib.hid (show (keysE S).length = n ∧ n ≤ 4000000 from ⟨hn, by rw [← hn]; exact HKL.out⟩)
  have HR1 := Aside0.mk hR1
  have HS1 := Aside0.mk (en_below hb1 HS0.out)
  have HH1 := Aside0.mk (en_below hb1 HH0.out)
  have HM1 := Aside0.mk (HM0.out.below hb1)
  have HK1 := Aside0.mk (MKeep.below (bm := bm) (bl := bl) hb1)
  have HL1 := Lib.hid (show ∃ zs, mLoop (matchF k) S H ((keysE S).drop 0) = some (zs, m) ∧ xs ++ zs = xs ++ l from ⟨l, by rw [List.drop_zero]; exact HL0.out.1, rfl⟩)
  clear hR1 hb1 hn HS0 HH0 HM0 HKC HL0 HKL
  go_wp2
  go_loopg [9, 10, 11, 12, 13, 17] n (fun gg _ _ _ _ _ s17 wr => ∃ (j : Nat) (ys : List S42), s17 = .int .i64 j ∧ j ≤ n ∧ n - j = gg ∧ Hid (∃ zs, mLoop (matchF k) S H ((keysE S).drop j) = some (zs, m) ∧ ys ++ zs = xs ++ l) ∧ Aside0 (kkey.R 27 wr W.heap.size (fun _ => True) (.slice Ak n ck) (keysE S)) ∧ Aside0 (EnAt wr S pS) ∧ Aside0 (EnAt wr H pH) ∧ Aside0 (MSt w0 wr bm bl ba mk ys) ∧ Aside0 (MKeep W wr bm bl))
  case atStart => exact ⟨0, xs, rfl, Nat.zero_le _, rfl, HL1, HR1, HS1, HH1, HM1, HK1⟩
  case round =>
    clear HL1 HR1 HS1 HH1 HM1 HK1
    obtain ⟨j, ys, rfl, hj, hgg, HL, HR, HS, HH, HM, HK⟩ := hrel
    by_cases hlt : j < n
    case neg =>
      obtain rfl : j = n := by omega
      obtain ⟨zs, hz, hz2⟩ := HL.out
      rw [List.drop_of_length_le (Nat.le_of_eq HN.out.1)] at hz
      unfold mLoop at hz
      simp only [Option.some.injEq, Prod.mk.injEq] at hz
      obtain ⟨rfl, rfl⟩ := hz
      rw [List.append_nil] at hz2
      have HZ := Lib.hid hz2
      clear hz2 HL
      go_wp2
      go_ret
      refine ⟨rfl, ?_, HK.out⟩
      rw [← HZ.out]
      exact HM.out
    case pos =>
    have hltz : (j : Int) < (n : Int) := by omega
    have hnb := HN.out.2
    have hjl : j < (keysE S).length := by rw [HN.out.1]; exact hlt
    obtain ⟨zs, hz, hz2⟩ := HL.out
    rw [List.drop_eq_getElem_cons hjl] at hz
    obtain ⟨ad, rfl, x0, x1⟩ := at_key (Kd.R_reads' HR.out).2.2 j hjl (by rw [HN.out.1]; exact hltz)
    have hmem : (keysE S)[j] ∈ keysE S := List.getElem_mem hjl
    generalize (keysE S)[j] = key at hz x0 x1 hmem
    obtain ⟨sp, nm⟩ := key
    dsimp only at x0 x1
    obtain ⟨⟨ydl, yvia, ypa, ypm⟩, hy⟩ := keysE_find hmem
    have hyok := (findE_ok HOK.out hy).1
    dsimp only at hyok
    unfold mLoop at hz
    rw [hy] at hz
    obtain ⟨F, hF⟩ : ∃ F, findE H (sp, nm) = F := ⟨_, rfl⟩
    rw [hF] at hz
    have HHZ := Lib.hid hz
    have HZ2 := Lib.hid hz2
    have HY := Lib.hid hy
    have HF := Lib.hid hF
    have HYOK := Lib.hid hyok
    clear hz hz2 hy hF hyok hmem hjl HL
    go_wp2_with fail
    obtain ⟨W1, hW1⟩ : ∃ W1, wr.alloc (.cells #[.int .i64 sp, .string nm] 27) = W1 := ⟨_, rfl⟩
    rw [hW1]
    have hB1 : Below wr.heap.size wr W1 := by rw [← hW1]; exact below_alloc (Below.refl _ _) _
    have hZ1 : W1.heap[wr.heap.size]? = some (.cells #[.int .i64 sp, .string nm] 27 (0, 0)) := by rw [← hW1]; exact blk_new wr _
    refine (find_calls (en_below hB1 HS.out) (sp, nm)).mono ?_
    rintro e w2 ⟨v, b, rfl, hi, hb2⟩
    rw [HY.out] at hi
    obtain ⟨pyp, pyq, rfl, rfl, hyA, -⟩ := hi
    have hB2 : Below wr.heap.size wr w2 := below_step hB1 hb2
    have hs2 : wr.heap.size ≤ w2.heap.size := hB2.size
    have hZ2 := (hb2.block _ (blk_lt hZ1)).trans hZ1
    have z0 : (w2.alloc (.cells #[.int .i64 ydl, .int .i64 yvia, .pointer pyp, .pointer pyq] 51)).cell? ⟨wr.heap.size, 0, none⟩ = some (.int .i64 sp) := (blk_cell (blk_alloc hZ2 _) 0).trans rfl
    have z1 : (w2.alloc (.cells #[.int .i64 ydl, .int .i64 yvia, .pointer pyp, .pointer pyq] 51)).cell? ⟨wr.heap.size, 1, none⟩ = some (.string nm) := (blk_cell (blk_alloc hZ2 _) 1).trans rfl
    have HB2 := Aside0.mk hB2
    have HZ2b := Aside0.mk hZ2
    have HYA := Aside0.mk hyA
    clear hW1 hB1 hZ1 hb2 hB2 hZ2 hyA x0 x1
    go_wp2_with fail
    obtain ⟨W3, hW3⟩ : ∃ W3, w2.alloc (.cells #[.int .i64 ydl, .int .i64 yvia, .pointer pyp, .pointer pyq] 51) = W3 := ⟨_, rfl⟩
    rw [hW3]
    have hB3 : Below w2.heap.size w2 W3 := by rw [← hW3]; exact below_alloc (Below.refl _ _) _
    have hZ3 : W3.heap[w2.heap.size]? = some (.cells #[.int .i64 ydl, .int .i64 yvia, .pointer pyp, .pointer pyq] 51 (0, 0)) := by rw [← hW3]; exact blk_new w2 _
    refine (find_calls (en_below (below_step HB2.out hB3) HH.out) (sp, nm)).mono ?_
    rintro e w4 ⟨v, b, rfl, hi, hb4⟩
    rw [HF.out] at hi
    have hB4 : Below w2.heap.size w2 w4 := below_step hB3 hb4
    have hK4 := (hB4.block _ (blk_lt HZ2b.out)).trans HZ2b.out
    have hY4 := (hb4.block _ (blk_lt hZ3)).trans hZ3
    have HB4 := Aside0.mk (below_step HB2.out hB4)
    have HYA4 := Aside0.mk (en_below hB4 HYA.out)
    have HK4 := Aside0.mk hK4
    have HY4 := Aside0.mk hY4
    have hs4 : wr.heap.size < w4.heap.size ∧ w2.heap.size < w4.heap.size := ⟨blk_lt hK4, blk_lt hY4⟩
    clear hW3 hB3 hZ3 hb4 hB4 z0 z1 HYA HZ2b HB2
    clear hK4 hY4
    cases F with
    | none =>
      obtain ⟨rfl, rfl⟩ := hi
      obtain ⟨W5, hW5⟩ : ∃ W5, w4.alloc (.cells #[.int .i64 0, .int .i64 0, .pointer none, .pointer none] 51) = W5 := ⟨_, rfl⟩
      have HW5 := Lib.hid hW5
      have hB5 : Below w4.heap.size w4 W5 := by rw [← hW5]; exact below_alloc (Below.refl _ _) _
      have hM5 := HM.out.below (below_step HB4.out hB5)
      have hk5 := (hB5.block _ hs4.1).trans HK4.out
      have z0 : W5.cell? ⟨wr.heap.size, 0, none⟩ = some (.int .i64 sp) := (blk_cell hk5 0).trans rfl
      have z1 : W5.cell? ⟨wr.heap.size, 1, none⟩ = some (.string nm) := (blk_cell hk5 1).trans rfl
      have hm5 : ∃ a s, W5.cell? ⟨bm, 0, none⟩ = some (.int .i64 a) ∧ W5.cell? ⟨bm, 1, none⟩ = some (.string s) ∧ W5.frozen? ⟨bm, 0, none⟩ = false ∧ W5.frozen? ⟨bm, 1, none⟩ = false := by
        obtain ⟨_, h1, h2, h3, h4, h5, h6, h7⟩ := hM5
        exact ⟨_, _, (blk_cell h5 0).trans rfl, (blk_cell h5 1).trans rfl, blk_frozen h5 0, blk_frozen h5 1⟩
      obtain ⟨ma, ms, m0, m1, f0, f1⟩ := hm5
      have HMM := Aside0.mk (hM5.miss sp nm)
      have HKK := Aside0.mk ((HK.out.trans (MKeep.below (below_step HB4.out hB5))).trans ((MKeep.set_bm (j := 0) (v := .int .i64 sp)).trans (MKeep.set_bm (j := 1) (v := .string nm))))
      have hz := HHZ.out
      simp only [Option.some.injEq, Prod.mk.injEq] at hz
      obtain ⟨rfl, rfl⟩ := hz
      have HZ := Lib.hid (show ys = xs ++ l by rw [← HZ2.out, List.append_nil])
      clear hM5 hk5 hB5 HHZ HZ2
      subst hW5
      go_wp2
      go_ret
      refine ⟨rfl, ?_, HKK.out⟩
      rw [← HZ.out]
      exact HMM.out
    | some x =>
      obtain ⟨xdl, xvia, xpa, xpm⟩ := x
      obtain ⟨pxp, pxq, rfl, rfl, hxA, -⟩ := hi
      obtain ⟨W5, hW5⟩ : ∃ W5, w4.alloc (.cells #[.int .i64 xdl, .int .i64 xvia, .pointer pxp, .pointer pxq] 51) = W5 := ⟨_, rfl⟩
      have hB5 : Below w4.heap.size w4 W5 := by rw [← hW5]; exact below_alloc (Below.refl _ _) _
      have hM5 := HM.out.below (below_step HB4.out hB5)
      have hk5 := (hB5.block _ hs4.1).trans HK4.out
      have hy5 := (hB5.block _ hs4.2).trans HY4.out
      have hx5 : W5.heap[w4.heap.size]? = some (.cells #[.int .i64 xdl, .int .i64 xvia, .pointer pxp, .pointer pxq] 51 (0, 0)) := by rw [← hW5]; exact blk_new w4 _
      have HS5 := Aside0.mk (en_below (below_step HB4.out hB5) HS.out)
      have HH5 := Aside0.mk (en_below (below_step HB4.out hB5) HH.out)
      have HYA5 := Aside0.mk (en_below hB5 HYA4.out)
      have HXA5 := Aside0.mk (en_below hB5 hxA)
      have HKB := Aside0.mk (MKeep.below (bm := bm) (bl := bl) (below_step HB4.out hB5))
      have HR5 := Aside0.mk (Kd.R_below HR.out (below_step HB4.out hB5))
      have HK5 := Aside0.mk (HK.out.trans HKB.out)
      have HM5 := Aside0.mk hM5
      have hne : wr.heap.size ≠ bm ∧ wr.heap.size ≠ bl ∧ w2.heap.size ≠ bm ∧ w2.heap.size ≠ bl ∧ w4.heap.size ≠ bm ∧ w4.heap.size ≠ bl := by
        have h1 := HBM.out
        have h2 := HK.out.1
        have h3 := HB4.out.size
        omega
      have hz := HHZ.out
      dsimp only at hz
      clear HHZ HB4 HYA4 HK4 HY4 hM5 hxA HS HH HM HK HR

      by_cases h4 : sp = 4
      case pos =>
        subst h4
        rw [if_pos rfl] at hz
        obtain ⟨R2, hR2⟩ : ∃ R2, matchF k ypa xpa = R2 := ⟨_, rfl⟩
        rw [hR2] at hz
        rcases R2 with _ | ⟨l2, m2⟩
        · cases hz
        have HIH := Aside0.mk (ih ypa xpa l2 m2 hR2)
        clear hR2
        by_cases hd : ydl = xdl
        case pos =>
          have k0 : W5.cell? ⟨wr.heap.size, 0, none⟩ = some (.int .i64 4) := (blk_cell hk5 0).trans rfl
          have y0 : W5.cell? ⟨w2.heap.size, 0, none⟩ = some (.int .i64 ydl) := (blk_cell hy5 0).trans rfl
          have x0 : W5.cell? ⟨w4.heap.size, 0, none⟩ = some (.int .i64 xdl) := (blk_cell hx5 0).trans rfl
          have y2 : W5.cell? ⟨w2.heap.size, 2, none⟩ = some (.pointer pyp) := (blk_cell hy5 2).trans rfl
          have x2 : W5.cell? ⟨w4.heap.size, 2, none⟩ = some (.pointer pxp) := (blk_cell hx5 2).trans rfl
          have bd : (ydl != xdl) = false := by simp [hd]
          have hpi : pairIf ydl xdl = [] := by unfold pairIf; rw [if_pos hd]
          rw [hpi] at hz
          have a0 : W5.cell? ⟨ba, 0, none⟩ = some (.func (.func 16) #[] #[.pointer (some ⟨bm, 0, none⟩), .pointer (some ⟨bl, 0, none⟩), .pointer (some ⟨ba, 0, none⟩)]) := by
            obtain ⟨_, h1, h2, h3, h4, h5, h6, h7⟩ := HM5.out
            exact (blk_cell h7 0).trans rfl
          clear hd hpi hk5 hy5 hx5 hB5
          cases m2 with
          | some mm =>
            simp only [Option.some.injEq, Prod.mk.injEq] at hz
            obtain ⟨rfl, rfl⟩ := hz
            have HZ := Lib.hid (show ys ++ l2 = xs ++ l by have h := HZ2.out; simpa using h)
            have hll : ys.length + l2.length ≤ 4000000 := by
              have h1 := HLEN.out
              have h2 := congrArg List.length HZ.out
              simp only [List.length_append] at h1 h2 ⊢
              omega
            have HC : Aside0 (Calls Try.prog 16 #[.pointer pyp, .pointer pxp, .pointer (some ⟨bm, 0, none⟩), .pointer (some ⟨bl, 0, none⟩), .pointer (some ⟨ba, 0, none⟩)] W5 fun e w' => e = .returned (.bool false) ∧ MSt w0 w' bm bl ba mm (ys ++ l2) ∧ MKeep W5 w' bm bl) := ⟨HIH.out w0 _ pyp pxp bm bl ba mk ys HYA5.out HXA5.out HYOK.out HM5.out hll⟩
            clear HIH hll
            subst hW5
            go_wp2_with (go_at_call 16; go_loud (refine HC.out.mono ?_); rintro e w8 ⟨rfl, hM8, hK8⟩; have HM8 := Aside0.mk hM8; have HK8 := Aside0.mk (HK5.out.trans hK8); clear hM8 hK8)
            go_ret
            refine ⟨rfl, ?_, HK8.out⟩
            rw [← HZ.out]
            exact HM8.out
          | none =>
            obtain ⟨⟨u1, u2⟩, hu, hz⟩ := Option.bind_eq_some_iff.1 hz
            simp only [Option.some.injEq, Prod.mk.injEq] at hz
            obtain ⟨rfl, rfl⟩ := hz
            have HZ := Lib.hid (show (ys ++ l2) ++ u1 = xs ++ l by have h := HZ2.out; simpa using h)
            have hll : ys.length + l2.length ≤ 4000000 := by
              have h1 := HLEN.out
              have h2 := congrArg List.length HZ.out
              simp only [List.length_append] at h1 h2 ⊢
              omega
            have HC : Aside0 (Calls Try.prog 16 #[.pointer pyp, .pointer pxp, .pointer (some ⟨bm, 0, none⟩), .pointer (some ⟨bl, 0, none⟩), .pointer (some ⟨ba, 0, none⟩)] W5 fun e w' => e = .returned (.bool true) ∧ MSt w0 w' bm bl ba mk (ys ++ l2) ∧ MKeep W5 w' bm bl) := ⟨HIH.out w0 _ pyp pxp bm bl ba mk ys HYA5.out HXA5.out HYOK.out HM5.out hll⟩
            have HLN := Lib.hid (show ∃ zs, mLoop (matchF k) S H ((keysE S).drop (j + 1)) = some (zs, u2) ∧ (ys ++ l2) ++ zs = xs ++ l from ⟨u1, hu, HZ.out⟩)
            clear HIH hll hu
            subst hW5
            go_wp2_with (go_at_call 16; go_loud (refine HC.out.mono ?_); rintro e w8 ⟨rfl, hM8, hK8⟩; have HE8 := MKeep.ek HM5.out hK8; have HS8 := Aside0.mk (en_keep HE8 HS5.out); have HH8 := Aside0.mk (en_keep HE8 HH5.out); have HR8 := Aside0.mk (MKeep.keys HM5.out HBM.out.1 hK8 HR5.out); have HM8 := Aside0.mk hM8; have HK8 := Aside0.mk (HK5.out.trans hK8); clear hM8 hK8 HE8)
            go_wp2
            go_roundg (n - (j + 1))
            case measure => omega
            case rel => exact ⟨j + 1, _, by go_num, by omega, rfl, HLN, HR8, HS8, HH8, HM8, HK8⟩
        case neg =>
          have k0 : W5.cell? ⟨wr.heap.size, 0, none⟩ = some (.int .i64 4) := (blk_cell hk5 0).trans rfl
          have y0 : W5.cell? ⟨w2.heap.size, 0, none⟩ = some (.int .i64 ydl) := (blk_cell hy5 0).trans rfl
          have x0 : W5.cell? ⟨w4.heap.size, 0, none⟩ = some (.int .i64 xdl) := (blk_cell hx5 0).trans rfl
          have y2 : W5.cell? ⟨w2.heap.size, 2, none⟩ = some (.pointer pyp) := (blk_cell hy5 2).trans rfl
          have x2 : W5.cell? ⟨w4.heap.size, 2, none⟩ = some (.pointer pxp) := (blk_cell hx5 2).trans rfl
          have bd : (ydl != xdl) = true := by simp [hd]
          have hpi : pairIf ydl xdl = [⟨ydl, xdl⟩] := by unfold pairIf; rw [if_neg hd]
          rw [hpi] at hz
          obtain ⟨v, hv, -, hRv, -⟩ : ∃ v, W5.heap[bl]? = some (.cells #[v] 25 (0, 0)) ∧ w0.heap.size ≤ bl ∧ Kd.R k42 42 W5 w0.heap.size (fun _ => True) v ys ∧ True := by
            obtain ⟨v, h1, h2, h3, h4, h5, h6, h7⟩ := HM5.out
            exact ⟨v, h1, h2, h3, trivial⟩
          have hyl : ys.length ≤ 4000000 := by
            have h1 := HLEN.out
            have h2 := congrArg List.length HZ2.out
            simp only [List.length_append] at h2
            omega
          have hb0 : w0.heap.size ≤ W5.heap.size := by
            obtain ⟨v, h1, h2, h3, h4, h5, h6, h7⟩ := HM5.out
            exact h4.size
          have v0 : W5.cell? ⟨bl, 0, none⟩ = some v := (blk_cell hv 0).trans rfl
          have HRV := Aside0.mk hRv
          have HV := Aside0.mk hv
          have HK5b := Aside0.mk hk5
          have HY5b := Aside0.mk hy5
          have HX5b := Aside0.mk hx5
          clear hd hpi hB5 hRv hv hk5 hy5 hx5 y2 x2
          subst hW5
          go_wp2_with (at_builtin; go_loud (refine Kd.R_append k42 (w0 := (w4.alloc (.cells #[.int .i64 xdl, .int .i64 xvia, .pointer pxp, .pointer pxq] 51))) w0.heap.size rfl _ _ 25 42 (.agg #[.int .i64 0, .int .i64 0]) 16 rfl Try.underlying25 pair_info rfl (by decide) (by decide) v ys ⟨ydl, xdl⟩ [.int .i64 ydl, .int .i64 xdl] (fun _ => True) (fun _ => False) rfl (by rw [World.size_alloc]; rfl) (pair_tok _ _ _ _ _) (fun _ h_ => h_.elim) (fun _ _ => trivial) HRV.out (Below.refl _ _) hb0 ?hl ?hk))
          case hl => omega
          case hk =>
            intro v1 w6 ho hb hgr hat
            obtain ⟨Av, cv, rfl⟩ := Kd.R_slice ho
            obtain ⟨hM7, hK7, hl6⟩ := HM5.out.link HV.out ho hb hgr
            have hk6 := hK7.2 _ _ _ HK5b.out (by decide) hne.1 hne.2.1
            have hy6 := hK7.2 _ _ _ HY5b.out (by decide) hne.2.2.1 hne.2.2.2.1
            have hx6 := hK7.2 _ _ _ HX5b.out (by decide) hne.2.2.2.2.1 hne.2.2.2.2.2
            obtain ⟨nv, hnv⟩ : ∃ nv, (ys ++ [(⟨ydl, xdl⟩ : S42)]).length = nv := ⟨_, rfl⟩
            rw [hnv] at hM7 hK7 hk6 hy6 hx6 ⊢
            have v6 : w6.cell? ⟨bl, 0, none⟩ = some v := (blk_cell hl6 0).trans rfl
            have f6 := blk_frozen hl6 0
            clear k0 y0 x0 v0
            have k0 : (w6.setCell ⟨bl, 0, none⟩ (.slice Av nv cv)).cell? ⟨wr.heap.size, 0, none⟩ = some (.int .i64 4) := (blk_cell hk6 0).trans rfl
            have y2 : (w6.setCell ⟨bl, 0, none⟩ (.slice Av nv cv)).cell? ⟨w2.heap.size, 2, none⟩ = some (.pointer pyp) := (blk_cell hy6 2).trans rfl
            have x2 : (w6.setCell ⟨bl, 0, none⟩ (.slice Av nv cv)).cell? ⟨w4.heap.size, 2, none⟩ = some (.pointer pxp) := (blk_cell hx6 2).trans rfl
            have a0 : (w6.setCell ⟨bl, 0, none⟩ (.slice Av nv cv)).cell? ⟨ba, 0, none⟩ = some (.func (.func 16) #[] #[.pointer (some ⟨bm, 0, none⟩), .pointer (some ⟨bl, 0, none⟩), .pointer (some ⟨ba, 0, none⟩)]) := by
              obtain ⟨_, h1, h2, h3, h4, h5, h6, h7⟩ := hM7
              exact (blk_cell h7 0).trans rfl
            have HKX := Aside0.mk hK7
            have HEX := Aside0.mk (MKeep.ek HM5.out hK7)
            have HS7 := Aside0.mk (en_keep HEX.out HS5.out)
            have HH7 := Aside0.mk (en_keep HEX.out HH5.out)
            have HYA7 := Aside0.mk (en_keep HEX.out HYA5.out)
            have HXA7 := Aside0.mk (en_keep HEX.out HXA5.out)
            have HR7 := Aside0.mk (MKeep.keys HM5.out HBM.out.1 hK7 HR5.out)
            have HK7 := Aside0.mk (HK5.out.trans hK7)
            have HM7 := Aside0.mk hM7
            clear hM7 hK7 hl6 hk6 hy6 hx6 ho hb hgr hat hnv HKX HEX HS5 HH5 HYA5 HXA5 HR5 HK5 HM5 HRV HV HK5b HY5b HX5b HKB
            cases m2 with
            | some mm =>
              simp only [Option.some.injEq, Prod.mk.injEq] at hz
              obtain ⟨rfl, rfl⟩ := hz
              have HZ := Lib.hid (show (ys ++ [(⟨ydl, xdl⟩ : S42)]) ++ l2 = xs ++ l by have h := HZ2.out; simpa using h)
              have hll : (ys ++ [(⟨ydl, xdl⟩ : S42)]).length + l2.length ≤ 4000000 := by
                have h1 := HLEN.out
                have h2 := congrArg List.length HZ.out
                simp only [List.length_append] at h1 h2 ⊢
                omega
              have HC : Aside0 (Calls Try.prog 16 #[.pointer pyp, .pointer pxp, .pointer (some ⟨bm, 0, none⟩), .pointer (some ⟨bl, 0, none⟩), .pointer (some ⟨ba, 0, none⟩)] (w6.setCell ⟨bl, 0, none⟩ (.slice Av nv cv)) fun e w' => e = .returned (.bool false) ∧ MSt w0 w' bm bl ba mm ((ys ++ [(⟨ydl, xdl⟩ : S42)]) ++ l2) ∧ MKeep (w6.setCell ⟨bl, 0, none⟩ (.slice Av nv cv)) w' bm bl) := ⟨HIH.out w0 _ pyp pxp bm bl ba mk (ys ++ [(⟨ydl, xdl⟩ : S42)]) HYA7.out HXA7.out HYOK.out HM7.out hll⟩
              clear HIH hll
              go_wp2_with (go_at_call 16; go_loud (refine HC.out.mono ?_); rintro e w8 ⟨rfl, hM8, hK8⟩; have HM8 := Aside0.mk hM8; have HK8 := Aside0.mk (HK7.out.trans hK8); clear hM8 hK8)
              go_ret
              refine ⟨rfl, ?_, HK8.out⟩
              rw [← HZ.out]
              exact HM8.out
            | none =>
              obtain ⟨⟨u1, u2⟩, hu, hz⟩ := Option.bind_eq_some_iff.1 hz
              simp only [Option.some.injEq, Prod.mk.injEq] at hz
              obtain ⟨rfl, rfl⟩ := hz
              have HZ := Lib.hid (show ((ys ++ [(⟨ydl, xdl⟩ : S42)]) ++ l2) ++ u1 = xs ++ l by have h := HZ2.out; simpa using h)
              have hll : (ys ++ [(⟨ydl, xdl⟩ : S42)]).length + l2.length ≤ 4000000 := by
                have h1 := HLEN.out
                have h2 := congrArg List.length HZ.out
                simp only [List.length_append] at h1 h2 ⊢
                omega
              have HC : Aside0 (Calls Try.prog 16 #[.pointer pyp, .pointer pxp, .pointer (some ⟨bm, 0, none⟩), .pointer (some ⟨bl, 0, none⟩), .pointer (some ⟨ba, 0, none⟩)] (w6.setCell ⟨bl, 0, none⟩ (.slice Av nv cv)) fun e w' => e = .returned (.bool true) ∧ MSt w0 w' bm bl ba mk ((ys ++ [(⟨ydl, xdl⟩ : S42)]) ++ l2) ∧ MKeep (w6.setCell ⟨bl, 0, none⟩ (.slice Av nv cv)) w' bm bl) := ⟨HIH.out w0 _ pyp pxp bm bl ba mk (ys ++ [(⟨ydl, xdl⟩ : S42)]) HYA7.out HXA7.out HYOK.out HM7.out hll⟩
              have HLN := Lib.hid (show ∃ zs, mLoop (matchF k) S H ((keysE S).drop (j + 1)) = some (zs, u2) ∧ ((ys ++ [(⟨ydl, xdl⟩ : S42)]) ++ l2) ++ zs = xs ++ l from ⟨u1, hu, HZ.out⟩)
              clear HIH hll hu
              go_wp2_with (go_at_call 16; go_loud (refine HC.out.mono ?_); rintro e w8 ⟨rfl, hM8, hK8⟩; have HE8 := MKeep.ek HM7.out hK8; have HS8 := Aside0.mk (en_keep HE8 HS7.out); have HH8 := Aside0.mk (en_keep HE8 HH7.out); have HR8 := Aside0.mk (MKeep.keys HM7.out HBM.out.1 hK8 HR7.out); have HM8 := Aside0.mk hM8; have HK8 := Aside0.mk (HK7.out.trans hK8); clear hM8 hK8 HE8)
              go_wp2
              go_roundg (n - (j + 1))
              case measure => omega
              case rel => exact ⟨j + 1, _, by go_num, by omega, rfl, HLN, HR8, HS8, HH8, HM8, HK8⟩
      case neg =>
        rw [if_neg h4] at hz
        obtain ⟨⟨u1, u2⟩, hu, hz⟩ := Option.bind_eq_some_iff.1 hz
        simp only [Option.some.injEq, Prod.mk.injEq] at hz
        obtain ⟨rfl, rfl⟩ := hz
        have HU := Lib.hid hu
        have b4 : (sp == 4) = false := beq_eq_false_iff_ne.2 h4
        clear hu h4
        by_cases hd : ydl = xdl
        case pos =>
          have k0 : W5.cell? ⟨wr.heap.size, 0, none⟩ = some (.int .i64 sp) := (blk_cell hk5 0).trans rfl
          have y0 : W5.cell? ⟨w2.heap.size, 0, none⟩ = some (.int .i64 ydl) := (blk_cell hy5 0).trans rfl
          have x0 : W5.cell? ⟨w4.heap.size, 0, none⟩ = some (.int .i64 xdl) := (blk_cell hx5 0).trans rfl
          have bd : (ydl != xdl) = false := by simp [hd]
          have hpi : pairIf ydl xdl = [] := by unfold pairIf; rw [if_pos hd]
          rw [hpi] at HZ2
          clear hd hpi hk5 hy5 hx5 hB5
          have HLN := Lib.hid (show ∃ zs, mLoop (matchF k) S H ((keysE S).drop (j + 1)) = some (zs, u2) ∧ ys ++ zs = xs ++ l from ⟨u1, HU.out, by have h := HZ2.out; simpa using h⟩)
          clear HU HZ2
          subst hW5
          go_wp2
          go_roundg (n - (j + 1))
          case measure => omega
          case rel => exact ⟨j + 1, _, by go_num, by omega, rfl, HLN, HR5, HS5, HH5, HM5, HK5⟩
        case neg =>
          have k0 : W5.cell? ⟨wr.heap.size, 0, none⟩ = some (.int .i64 sp) := (blk_cell hk5 0).trans rfl
          have y0 : W5.cell? ⟨w2.heap.size, 0, none⟩ = some (.int .i64 ydl) := (blk_cell hy5 0).trans rfl
          have x0 : W5.cell? ⟨w4.heap.size, 0, none⟩ = some (.int .i64 xdl) := (blk_cell hx5 0).trans rfl
          have bd : (ydl != xdl) = true := by simp [hd]
          have hpi : pairIf ydl xdl = [⟨ydl, xdl⟩] := by unfold pairIf; rw [if_neg hd]
          rw [hpi] at HZ2
          obtain ⟨v, hv, -, hRv, -⟩ : ∃ v, W5.heap[bl]? = some (.cells #[v] 25 (0, 0)) ∧ w0.heap.size ≤ bl ∧ Kd.R k42 42 W5 w0.heap.size (fun _ => True) v ys ∧ True := by
            obtain ⟨v, h1, h2, h3, h4, h5, h6, h7⟩ := HM5.out
            exact ⟨v, h1, h2, h3, trivial⟩
          have hyl : ys.length ≤ 4000000 := by
            have h1 := HLEN.out
            have h2 := congrArg List.length HZ2.out
            simp only [List.length_append] at h2
            omega
          have hb0 : w0.heap.size ≤ W5.heap.size := by
            obtain ⟨v, h1, h2, h3, h4, h5, h6, h7⟩ := HM5.out
            exact h4.size
          have v0 : W5.cell? ⟨bl, 0, none⟩ = some v := (blk_cell hv 0).trans rfl
          have HRV := Aside0.mk hRv
          have HV := Aside0.mk hv
          have HK5b := Aside0.mk hk5
          have HY5b := Aside0.mk hy5
          have HX5b := Aside0.mk hx5
          clear hd hpi hB5 hRv hv hk5 hy5 hx5
          subst hW5
          go_wp2_with (at_builtin; go_loud (refine Kd.R_append k42 (w0 := (w4.alloc (.cells #[.int .i64 xdl, .int .i64 xvia, .pointer pxp, .pointer pxq] 51))) w0.heap.size rfl _ _ 25 42 (.agg #[.int .i64 0, .int .i64 0]) 16 rfl Try.underlying25 pair_info rfl (by decide) (by decide) v ys ⟨ydl, xdl⟩ [.int .i64 ydl, .int .i64 xdl] (fun _ => True) (fun _ => False) rfl (by rw [World.size_alloc]; rfl) (pair_tok _ _ _ _ _) (fun _ h_ => h_.elim) (fun _ _ => trivial) HRV.out (Below.refl _ _) hb0 ?hl ?hk))
          case hl => omega
          case hk =>
            intro v1 w6 ho hb hgr hat
            obtain ⟨Av, cv, rfl⟩ := Kd.R_slice ho
            obtain ⟨hM7, hK7, hl6⟩ := HM5.out.link HV.out ho hb hgr
            have hk6 := hK7.2 _ _ _ HK5b.out (by decide) hne.1 hne.2.1
            have hy6 := hK7.2 _ _ _ HY5b.out (by decide) hne.2.2.1 hne.2.2.2.1
            have hx6 := hK7.2 _ _ _ HX5b.out (by decide) hne.2.2.2.2.1 hne.2.2.2.2.2
            obtain ⟨nv, hnv⟩ : ∃ nv, (ys ++ [(⟨ydl, xdl⟩ : S42)]).length = nv := ⟨_, rfl⟩
            rw [hnv] at hM7 hK7 hk6 hy6 hx6 ⊢
            have v6 : w6.cell? ⟨bl, 0, none⟩ = some v := (blk_cell hl6 0).trans rfl
            have f6 := blk_frozen hl6 0
            clear k0 y0 x0 v0
            have k0 : (w6.setCell ⟨bl, 0, none⟩ (.slice Av nv cv)).cell? ⟨wr.heap.size, 0, none⟩ = some (.int .i64 sp) := (blk_cell hk6 0).trans rfl
            have HKX := Aside0.mk hK7
            have HEX := Aside0.mk (MKeep.ek HM5.out hK7)
            have HS7 := Aside0.mk (en_keep HEX.out HS5.out)
            have HH7 := Aside0.mk (en_keep HEX.out HH5.out)
            have HYA7 := Aside0.mk (en_keep HEX.out HYA5.out)
            have HXA7 := Aside0.mk (en_keep HEX.out HXA5.out)
            have HR7 := Aside0.mk (MKeep.keys HM5.out HBM.out.1 hK7 HR5.out)
            have HK7 := Aside0.mk (HK5.out.trans hK7)
            have HM7 := Aside0.mk hM7
            clear hM7 hK7 hl6 hk6 hy6 hx6 ho hb hgr hat hnv HKX HEX HS5 HH5 HYA5 HXA5 HR5 HK5 HM5 HRV HV HK5b HY5b HX5b HKB
            have HLN := Lib.hid (show ∃ zs, mLoop (matchF k) S H ((keysE S).drop (j + 1)) = some (zs, u2) ∧ (ys ++ [(⟨ydl, xdl⟩ : S42)]) ++ zs = xs ++ l from ⟨u1, HU.out, by have h := HZ2.out; simpa using h⟩)
            clear HU HZ2
            go_wp2
            go_roundg (n - (j + 1))
            case measure => omega
            case rel => exact ⟨j + 1, _, by go_num, by omega, rfl, HLN, HR7, HS7, HH7, HM7, HK7⟩
section
variable {P : Program}
theorem results_tct {fn : Func} {u p v : Tmp} {ty : TypeId} (h : fn.results = #[.tmp u, .cell p ty, .tmp v]) (tmps : Array Value) (w : World) (g : Nat) (t : TypeId) (cs : Array Value) (fr : Nat × Nat) (d : TypeDesc)
    (hp : tmps.getD p undef = .pointer (some ⟨g, 0, none⟩)) (hg : w.heap[g]? = some (.cells cs t fr))
    (hu : P.underlying ty = some d) (hd : (match d with | .struct _ | .array _ _ => true | _ => false) = true) (hi : (P.info? ty).map (·.size) = some cs.size) :
    (results fn tmps).run P w = .ok (.tuple #[tmps.getD u undef, .agg cs, tmps.getD v undef]) w := by
  have hp' : tmps[p]?.getD undef = .pointer (some ⟨g, 0, none⟩) := by simpa using hp
  simp [results, h, hp', asAddr, run_loadVar_row w g t ty cs fr d hg hu hd hi]
end
set_option maxHeartbeats 16000000 in
set_option maxRecDepth 100000 in
theorem match_calls (k : Nat) (S H : En) (l : List S42) (m : Option EKey) (hm : matchF k S H = some (l, m)) (w : World) (pS pH : Option Addr) (hS : EnAt w S pS) (hH : EnAt w H pH) (hok : S.ok) (hlen : l.length ≤ 4000000) :
    Calls Try.prog 7 #[.pointer pS, .pointer pH] w fun e w' => ∃ v : Value, e = .returned (.tuple #[v, .agg #[.int .i64 (m.getD (0, ⟨#[]⟩)).1, .string (m.getD (0, ⟨#[]⟩)).2], .bool m.isNone]) ∧ Kd.R k42 42 w' w.heap.size (fun _ => True) v (if m.isNone = true then l else []) ∧ Below w.heap.size w w' := by
  have hu27 := Try.underlying27
  have hu25 := Try.underlying25
  have hu47 := Try.underlying47
  have HIH := Aside0.mk (match_walk k S H l m hm)
  have HS := Aside0.mk hS
  have HH := Aside0.mk hH
  have HOK := Lib.hid hok
  have HLEN := Lib.hid hlen
  clear hm hS hH hok hlen
  go_enter Try.func7, Try.ntmps7
  go_wp2_with fail
  obtain ⟨W4, hW4⟩ : ∃ W4, ((((w.alloc (.cells #[.int .i64 0, .string ⟨#[]⟩] 27)).alloc (.cells #[.slice none 0 0] 25)).alloc (.cells #[.int .i64 0, .string ⟨#[]⟩] 27)).alloc (.cells #[.func (.func 16) #[] #[.pointer (some ⟨w.heap.size + 1 + 1, 0, none⟩), .pointer (some ⟨w.heap.size + 1, 0, none⟩), .pointer (some ⟨w.heap.size + 1 + 1 + 1, 0, none⟩)]] 47)) = W4 := ⟨_, rfl⟩
  rw [hW4]
  have hB4 : Below w.heap.size w W4 := by rw [← hW4]; exact below_alloc (below_alloc (below_alloc (below_alloc (Below.refl _ _) _) _) _) _
  have h5 : W4.heap[w.heap.size]? = some (.cells #[.int .i64 0, .string ⟨#[]⟩] 27 (0, 0)) := by rw [← hW4]; exact blk_alloc (blk_alloc (blk_alloc (blk_new w _) _) _) _
  have h7 : W4.heap[w.heap.size + 1]? = some (.cells #[.slice none 0 0] 25 (0, 0)) := by
    rw [← hW4]
    have h := blk_alloc (blk_alloc (blk_new (w.alloc (.cells #[.int .i64 0, .string ⟨#[]⟩] 27)) (.cells #[.slice none 0 0] 25)) (.cells #[.int .i64 0, .string ⟨#[]⟩] 27)) (.cells #[.func (.func 16) #[] #[.pointer (some ⟨w.heap.size + 1 + 1, 0, none⟩), .pointer (some ⟨w.heap.size + 1, 0, none⟩), .pointer (some ⟨w.heap.size + 1 + 1 + 1, 0, none⟩)]] 47)
    simpa only [World.size_alloc] using h
  have h8 : W4.heap[w.heap.size + 1 + 1]? = some (.cells #[.int .i64 0, .string ⟨#[]⟩] 27 (0, 0)) := by
    rw [← hW4]
    have h := blk_alloc (blk_new ((w.alloc (.cells #[.int .i64 0, .string ⟨#[]⟩] 27)).alloc (.cells #[.slice none 0 0] 25)) (.cells #[.int .i64 0, .string ⟨#[]⟩] 27)) (.cells #[.func (.func 16) #[] #[.pointer (some ⟨w.heap.size + 1 + 1, 0, none⟩), .pointer (some ⟨w.heap.size + 1, 0, none⟩), .pointer (some ⟨w.heap.size + 1 + 1 + 1, 0, none⟩)]] 47)
    simpa only [World.size_alloc] using h
  have h9 : W4.heap[w.heap.size + 1 + 1 + 1]? = some (.cells #[.func (.func 16) #[] #[.pointer (some ⟨w.heap.size + 1 + 1, 0, none⟩), .pointer (some ⟨w.heap.size + 1, 0, none⟩), .pointer (some ⟨w.heap.size + 1 + 1 + 1, 0, none⟩)]] 47 (0, 0)) := by
    rw [← hW4]
    have h := blk_new (((w.alloc (.cells #[.int .i64 0, .string ⟨#[]⟩] 27)).alloc (.cells #[.slice none 0 0] 25)).alloc (.cells #[.int .i64 0, .string ⟨#[]⟩] 27)) (.cells #[.func (.func 16) #[] #[.pointer (some ⟨w.heap.size + 1 + 1, 0, none⟩), .pointer (some ⟨w.heap.size + 1, 0, none⟩), .pointer (some ⟨w.heap.size + 1 + 1 + 1, 0, none⟩)]] 47)
    simpa only [World.size_alloc] using h
  have hM4 : MSt w W4 (w.heap.size + 1 + 1) (w.heap.size + 1) (w.heap.size + 1 + 1 + 1) (0, ⟨#[]⟩) [] :=
    ⟨.slice none 0 0, h7, by omega, Kd.R_nil _ _ _ _ _, hB4, h8, by omega, h9⟩
  have HC := Aside0.mk (HIH.out w W4 pS pH (w.heap.size + 1 + 1) (w.heap.size + 1) (w.heap.size + 1 + 1 + 1) (0, ⟨#[]⟩) [] (en_below hB4 HS.out) (en_below hB4 HH.out) HOK.out hM4 (by have := HLEN.out; simp; omega))
  have H5 := Aside0.mk h5
  clear hW4 hB4 h5 h7 h8 h9 hM4 HIH HS HH HOK HLEN
  refine HC.out.mono ?_
  rintro e w5 ⟨rfl, hM, hK⟩
  rw [List.nil_append] at hM
  have h5 := hK.2 _ _ _ H5.out (by decide) (by omega) (by omega)
  obtain ⟨v, k1, k2, k3, k4, k5, k6, k7⟩ := hM
  obtain ⟨Av, cv, rfl⟩ := Kd.R_slice k3
  have z7 : w5.cell? ⟨w.heap.size + 1, 0, none⟩ = some (.slice Av l.length cv) := (blk_cell k1 0).trans rfl
  have z0 : w5.cell? ⟨w.heap.size, 0, none⟩ = some (.int .i64 0) := (blk_cell h5 0).trans rfl
  have z1 : w5.cell? ⟨w.heap.size, 1, none⟩ = some (.string ⟨#[]⟩) := (blk_cell h5 1).trans rfl
  have f0 := blk_frozen h5 0
  have f1 := blk_frozen h5 1
  have y0 : w5.cell? ⟨w.heap.size + 1 + 1, 0, none⟩ = some (.int .i64 (m.getD (0, ⟨#[]⟩)).1) := (blk_cell k5 0).trans rfl
  have y1 : w5.cell? ⟨w.heap.size + 1 + 1, 1, none⟩ = some (.string (m.getD (0, ⟨#[]⟩)).2) := (blk_cell k5 1).trans rfl
  have H5b := Aside0.mk h5
  have HR := Aside0.mk k3
  have HB := Aside0.mk k4
  have HE : ∀ q, q ∈ 42 :: k42.E → q ≠ 27 := by
    intro q hq
    rcases List.mem_cons.1 hq with rfl | hq
    · decide
    · cases hq
  clear hK HC H5 k1 k2 k3 k4 k5 k6 k7 h5
  cases m with
  | none =>
    simp only [Option.isNone_none]
    clear y0 y1
    go_wp2
    refine bodyPost_ret (results_tct rfl _ _ w.heap.size 27 #[.int .i64 0, .string ⟨#[]⟩] (0, 0) _ rfl (blk_put (blk_put H5b.out 0 _ rfl) 1 _ rfl) hu27 rfl (by kernel_rfl)) rfl ?_
    have h6 := blk_put H5b.out 0 (.int .i64 0) rfl
    exact ⟨_, rfl, Kd.R_set (Kd.R_set HR.out H5b.out HE 0 _) h6 HE 1 _, below_set (below_set HB.out (Nat.le_refl _)) (Nat.le_refl _)⟩
  | some mm =>
    simp only [Option.isNone_some, Option.getD_some] at y0 y1 ⊢
    obtain ⟨ma, ms⟩ := mm
    dsimp only at y0 y1 ⊢
    go_wp2
    go_region
    go_wp2
    refine bodyPost_ret (results_tct rfl _ _ w.heap.size 27 #[.int .i64 ma, .string ms] (0, 0) _ rfl (blk_put (blk_put (w := w5.drew) H5b.out 0 _ rfl) 1 _ rfl) hu27 rfl (by kernel_rfl)) rfl ?_
    exact ⟨_, rfl, Kd.R_nil _ _ _ _ _, below_set (below_set (below_drew HB.out) (Nat.le_refl _)) (Nat.le_refl _)⟩
end Go.Proofs.Ytfmbfnjlennfoaa.QN
