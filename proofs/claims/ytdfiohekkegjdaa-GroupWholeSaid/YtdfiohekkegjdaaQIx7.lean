-- Laid by this claim's own program (mprint.py in the repo).
import Derived.Test.YtdfiohekkegjdaaQIx0
import Derived.Test.YtdfiohekkegjdaaQIx4
import Derived.Test.YtdfiohekkegjdaaQIx6
namespace Go.Proofs.Ytdfiohekkegjdaa.QI
open Go.RowKit Go.Proofs.YtdfiohekkegjdaaW.PrintWords Go.Proofs.YtdfiohekkegjdaaW.PrintLast Go.Proofs.YtdfiohekkegjdaaW.PrintMore
attribute [local go_sem] max2_int min2_int max_two min_two max_three min_three max_four min_four   -- for this text's walks alone
set_option linter.unusedVariables false
set_option linter.unusedSimpArgs false

/-! ### group_Signs: function 15 -/
def group_Signs.pv (sg _ : Int) : Int := sg
def group_Signs.pb (sg _ : Int) : Bool := decide (0 ≤ sg)
def group_Signs.f (k : Nat) (sg lf : Int) (kids : List S27) : Option (List Int) := (gthF group_Signs.pv group_Signs.pb k ⟨sg, lf, kids⟩).bind fun l => if l.length ≤ 100000 then some l else none
theorem group_Signs.mono : ∀ a0 a1 a2 k, LeO (group_Signs.f k a0 a1 a2) (group_Signs.f (k + 1) a0 a1 a2) := by
  intro a0 a1 a2 k
  unfold group_Signs.f
  exact LeO.bind (gthF_mono _ _ k _) fun _ => LeO.refl _
set_option maxHeartbeats 4000000 in
set_option maxRecDepth 100000 in
theorem group_Signs.is (W : World) (sg lf : Int) (A : Option Addr) (n c : Nat) :
    Calls Try.prog 26 #[.agg #[.int .i64 sg, .int .i64 lf, .slice A n c]] W fun e w' => e = .returned (.tuple #[.int .i64 (group_Signs.pv sg lf), .bool (group_Signs.pb sg lf)]) ∧ Below W.heap.size W w' := by
  have hu27 := Try.underlying27
  have HB := Aside0.mk (Below.refl W.heap.size W)
  go_enter Try.func26, Try.ntmps26
  go_wp2_with (first | ((with_reducible refine gate_dst (N := 1) rfl ?_); refine box_event ?hg (N := 1) ?hd (cs := #[.int .i64 sg, .int .i64 lf, .slice A n c]) (t := 27) ?hr ?_; (case hd => rfl); (case hg => rfl); (case hr => first | (go_simp; done) | (go_simp; rfl)); intro b1 hg1 w1 hbox hb; have B1 := Aside0.mk hbox; clear hbox; have HB_ := Aside0.mk (below_step HB.out hb); clear HB hb hg1; have HB := HB_; clear HB_; have q0 : w1.cell? ⟨b1, 0, none⟩ = some (.int .i64 sg) := (blk_cell B1.out 0).trans rfl; have q1 : w1.cell? ⟨b1, 1, none⟩ = some (.int .i64 lf) := (blk_cell B1.out 1).trans rfl))
  refine wp_region_held_drew (S := (fun w' => w'.cell? ⟨b1, 0, none⟩ = some (.int .i64 sg) ∧ w'.cell? ⟨b1, 1, none⟩ = some (.int .i64 lf))) (by kernel_rfl) ⟨q0, q1⟩ (fun hHeld => ?_)
  refine wpAnyH_take (i := 0) (oi := ?o0) (v := ?v0) ?hi0 (by kernel_rfl) (by kernel_rfl) (by kernel_rfl) ?hQ0 ?hy0 (by assumption) ?rest0
  case hi0 => simp only [List.getElem?_toArray, List.getElem?_cons_succ, List.getElem?_cons_zero] <;> rfl
  case hQ0 => exact fun _ _ _ h => h
  case hy0 => exact Or.inl ⟨by kernel_rfl, by intro w hSw; (try dsimp only at hSw); go_simp; first | done | with_reducible rfl⟩
  try simp only [Act.put, List.setIfInBounds_toArray, List.set_cons_zero, List.set_cons_succ]
  refine wpAnyH_take (i := 1) (oi := ?o1) (v := ?v1) ?hi1 (by kernel_rfl) (by kernel_rfl) (by kernel_rfl) ?hQ1 ?hy1 (by assumption) ?rest1
  case hi1 => simp only [List.getElem?_toArray, List.getElem?_cons_succ, List.getElem?_cons_zero] <;> rfl
  case hQ1 => exact fun _ _ _ h => h
  case hy1 => exact Or.inl ⟨by kernel_rfl, by intro w hSw; (try dsimp only at hSw); go_simp; first | done | with_reducible rfl⟩
  try simp only [Act.put, List.setIfInBounds_toArray, List.set_cons_zero, List.set_cons_succ]
  refine wpAnyH_take (i := 2) (oi := ?o2) (v := ?v2) ?hi2 (by kernel_rfl) (by kernel_rfl) (by kernel_rfl) ?hQ2 ?hy2 (by assumption) ?rest2
  case hi2 => simp only [List.getElem?_toArray, List.getElem?_cons_succ, List.getElem?_cons_zero] <;> rfl
  case hQ2 => exact fun _ _ _ h => h
  case hy2 => exact Or.inl ⟨by kernel_rfl, by intro w hSw; (try dsimp only at hSw); go_simp; first | done | with_reducible rfl⟩
  try simp only [Act.put, List.setIfInBounds_toArray, List.set_cons_zero, List.set_cons_succ]
  refine wpAnyH_take (i := 3) (oi := ?o3) (v := ?v3) ?hi3 (by kernel_rfl) (by kernel_rfl) (by kernel_rfl) ?hQ3 ?hy3 (by assumption) ?rest3
  case hi3 => simp only [List.getElem?_toArray, List.getElem?_cons_succ, List.getElem?_cons_zero] <;> rfl
  case hQ3 => exact fun _ _ _ h => h
  case hy3 => exact Or.inl ⟨by kernel_rfl, by intro w hSw; (try dsimp only at hSw); go_simp; first | done | with_reducible rfl⟩
  try simp only [Act.put, List.setIfInBounds_toArray, List.set_cons_zero, List.set_cons_succ]
  refine wpAnyH_take (i := 4) (oi := ?o4) (v := ?v4) ?hi4 (by kernel_rfl) (by kernel_rfl) (by kernel_rfl) ?hQ4 ?hy4 (by assumption) ?rest4
  case hi4 => simp only [List.getElem?_toArray, List.getElem?_cons_succ, List.getElem?_cons_zero] <;> rfl
  case hQ4 => exact fun _ _ _ h => h
  case hy4 => exact Or.inl ⟨by kernel_rfl, by intro w hSw; (try dsimp only at hSw); go_simp; first | done | with_reducible rfl⟩
  try simp only [Act.put, List.setIfInBounds_toArray, List.set_cons_zero, List.set_cons_succ]
  refine wpAnyH_take (i := 5) (oi := ?o5) (v := ?v5) ?hi5 (by kernel_rfl) (by kernel_rfl) (by kernel_rfl) ?hQ5 ?hy5 (by assumption) ?rest5
  case hi5 => simp only [List.getElem?_toArray, List.getElem?_cons_succ, List.getElem?_cons_zero] <;> rfl
  case hQ5 => exact fun _ _ _ h => h
  case hy5 => exact Or.inl ⟨by kernel_rfl, by intro w hSw; (try dsimp only at hSw); go_simp; first | done | with_reducible rfl⟩
  try simp only [Act.put, List.setIfInBounds_toArray, List.set_cons_zero, List.set_cons_succ]
  refine wpAnyH_take (i := 6) (oi := ?o6) (v := ?v6) ?hi6 (by kernel_rfl) (by kernel_rfl) (by kernel_rfl) ?hQ6 ?hy6 (by assumption) ?rest6
  case hi6 => simp only [List.getElem?_toArray, List.getElem?_cons_succ, List.getElem?_cons_zero] <;> rfl
  case hQ6 => exact fun _ _ _ h => h
  case hy6 => exact Or.inl ⟨by kernel_rfl, by intro w hSw; (try dsimp only at hSw); go_simp; first | done | with_reducible rfl⟩
  try simp only [Act.put, List.setIfInBounds_toArray, List.set_cons_zero, List.set_cons_succ]
  refine wpAnyH_done (by kernel_rfl) ?_ _
  go_wp2_with fail
  go_ret2
  exact ⟨rfl, below_drew1 HB.out⟩
set_option maxHeartbeats 8000000 in
set_option maxRecDepth 100000 in
theorem group_Signs.walk (k : Nat) : ∀ (sg lf : Int) (A : Option Addr) (c : Nat) (l : List S27) (new : List Int) (w0 : World), Kd.C k27 w0 A l.length l → l.length ≤ c → gthF group_Signs.pv group_Signs.pb k ⟨sg, lf, l⟩ = some new →
    ∀ (W : World) (b3 b5 b6 : Nat) (xs : List Int), GSt w0 W b3 b5 b6 26 xs → xs.length + new.length ≤ 100000 →
    Calls Try.prog 43 #[.agg #[.int .i64 sg, .int .i64 lf, .slice A l.length c], .pointer (some ⟨b6, 0, none⟩), .pointer (some ⟨b3, 0, none⟩), .pointer (some ⟨b5, 0, none⟩)] W fun e w' =>
      e = .returned (.tuple #[]) ∧ GSt w0 w' b3 b5 b6 26 (xs ++ new) ∧ GKeep W w' b5 := by
  induction k with
  | zero => intro _ _ _ _ _ _ _ _ _ h; exact absurd h (by simp [gthF])
  | succ k ih =>
  intro sg lf A c l new w0 hk hc h W b3 b5 b6 xs hst hsz
  have hu27 := Try.underlying27
  have hu25 := Try.underlying25
  have hu38 := Try.underlying38
  unfold gthF at h
  dsimp only at h
  by_cases hl5 : l.length ≤ 100000
  case neg => rw [if_neg hl5] at h; cases h
  rw [if_pos hl5] at h
  obtain ⟨ln, hln, h⟩ := Option.bind_eq_some_iff.1 h
  have hnew : ln ++ (if group_Signs.pb sg lf = true then [group_Signs.pv sg lf] else []) = new := Option.some.inj h
  clear h
  have hnl : ln.length ≤ new.length := by rw [← hnew, List.length_append]; omega
  have HNEW := Lib.hid hnew
  have HNL := Lib.hid (show xs.length + ln.length ≤ 100000 by omega)
  clear hnew hnl hsz
  obtain ⟨m, hm⟩ : ∃ m, l.length = m := ⟨_, rfl⟩
  rw [hm] at hk hc hl5 ⊢
  have HM := Lib.hid hm
  have HLN := Lib.hid hln
  have HK := Aside0.mk hk
  have HS := Aside0.mk hst
  have HKP := Aside0.mk (GKeep.refl W b5)
  clear hm hln hk hst hc
  go_enter Try.func43, Try.ntmps43
  go_wp2_with (first | ((with_reducible refine gate_dst (N := 4) rfl ?_); refine box_event ?hg (N := 4) ?hd (cs := #[.int .i64 sg, .int .i64 lf, .slice A m c]) (t := 27) ?hr ?_; (case hd => rfl); (case hg => rfl); (case hr => first | (go_simp; done) | (go_simp; rfl)); intro b4 hg4 w1 hbox hb; have B4 := Aside0.mk hbox; clear hbox; have HS_ := Aside0.mk (HS.out.below hb); have HKP_ := Aside0.mk (HKP.out.trans (GKeep.below (b5 := b5) hb)); clear HS HKP hb hg4; have HS := HS_; have HKP := HKP_; clear HS_ HKP_; have q2 : w1.cell? ⟨b4, 2, none⟩ = some (.slice A m c) := (blk_cell B4.out 2).trans rfl))
  clear q2
  go_loopg [6, 12] m (fun gg _ v12 wr => ∃ (j : Nat) (ys zs : List Int), v12 = .int .i64 j ∧ j ≤ m ∧ m - j ≤ gg ∧ Hid (gthL (gthF group_Signs.pv group_Signs.pb k) (l.drop j) = some zs ∧ ys ++ zs = xs ++ ln) ∧ Aside0 (GSt w0 wr b3 b5 b6 26 ys) ∧ Aside0 (GKeep W wr b5) ∧ Aside0 (wr.heap[b4]? = some (.cells #[.int .i64 sg, .int .i64 lf, .slice A m c] 27 (0, 0))))
  case atStart => exact ⟨0, xs, ln, rfl, Nat.zero_le _, Nat.le_refl _, ⟨by rw [List.drop_zero]; exact HLN.out, rfl⟩, HS, HKP, B4⟩
  case round =>
    clear HS HKP B4
    obtain ⟨j, ys, zs, rfl, hj, hgj, hz, HS, HKP, B4⟩ := hrel
    by_cases hlt : j < m
    · have hltz : (j : Int) < (m : Int) := by omega
      obtain ⟨hz1, hz2⟩ := hz.out
      have hjl : j < l.length := by rw [HM.out]; exact hlt
      rw [List.drop_eq_getElem_cons hjl] at hz1
      obtain ⟨za, hza, hz1⟩ := Option.bind_eq_some_iff.1 hz1
      obtain ⟨zb, hzb, hz1⟩ := Option.bind_eq_some_iff.1 hz1
      obtain rfl := Option.some.inj hz1
      clear hz hz1
      obtain ⟨ad1, Ak, ck, ead1, k1, k2, k3, hck, hkk⟩ := at_T27 HK.out (j : Int) (by omega) hltz
      rw [Int.toNat_natCast] at k1 k2 k3
      have hrd : rd_T27 l (j : Int) = l[j] := by
        unfold rd_T27
        rw [Int.toNat_natCast, List.getD_eq_getElem?_getD, List.getElem?_eq_getElem hjl]
        rfl
      rw [hrd] at k1 k2 k3 hck hkk
      generalize l[j] = x at k1 k2 k3 hck hkk hza
      obtain ⟨x0, x1, xl⟩ := x
      dsimp only at k1 k2 k3 hck hkk
      cases ead1
      obtain ⟨nx, hnx⟩ : ∃ nx, xl.length = nx := ⟨_, rfl⟩
      have HI := ih x0 x1 Ak ck xl za w0 hkk hck hza
      rw [hnx] at k3 HI
      have hlen : ys.length + za.length ≤ 100000 := by
        have h1 := HNL.out
        have h2 := congrArg List.length hz2
        simp only [List.length_append] at h2
        omega
      have HIK := Aside0.mk (fun (W' : World) (hst : GSt w0 W' b3 b5 b6 26 ys) => HI W' b3 b5 b6 ys hst hlen)
      have HZ := Lib.hid (show gthL (gthF group_Signs.pv group_Signs.pb k) (l.drop (j + 1)) = some zb ∧ (ys ++ za) ++ zb = xs ++ ln from ⟨hzb, by rw [List.append_assoc]; exact hz2⟩)
      have hbw := HS.out.below0
      replace k1 := (hbw.cell (World.block_lt_of_cell? w0 _ k1)).trans k1
      replace k2 := (hbw.cell (World.block_lt_of_cell? w0 _ k2)).trans k2
      replace k3 := (hbw.cell (World.block_lt_of_cell? w0 _ k3)).trans k3
      have hbz := hbw.size
      have q2 : wr.cell? ⟨b4, 2, none⟩ = some (.slice (some ad1) m c) := (blk_cell B4.out 2).trans rfl
      clear hbw HI hza hzb hz2 hck hkk hnx hlen
      go_wp2_with (first | ((with_reducible refine gate_dst (N := 6) rfl ?_); (try (refine gate_guard (by rfl) ?_; dsimp only)); refine box_event ?hg (N := 6) ?hd (cs := #[.int .i64 0, .int .i64 0, .slice none 0 0]) (t := 27) ?hr ?_; (case hd => rfl); (case hg => rfl); (case hr => first | (go_simp; done) | (go_simp; rfl)); intro b7 hg7 w3 hbox hb; have B7 := Aside0.mk hbox; clear hbox; have HS_ := Aside0.mk (HS.out.below hb); have HKP_ := Aside0.mk (HKP.out.trans (GKeep.below (b5 := b5) hb)); have B4_ := Aside0.mk (blk_below (g := b4) B4.out hb); have HG7 := Aside0.mk (show w0.heap.size ≤ b7 ∧ W.heap.size ≤ b7 ∧ b4 ≠ b7 from ⟨by rw [hg7]; exact hbz, by rw [hg7]; exact HKP.out.1, by rw [hg7]; exact Nat.ne_of_lt (blk_lt B4.out)⟩); clear HS HKP B4 hb hg7 q2; have HS := HS_; have HKP := HKP_; have B4 := B4_; clear HS_ HKP_ B4_; have hc0 : w3.cell? ⟨b7, 0, none⟩ = some (.int .i64 0) := (blk_cell B7.out 0).trans rfl; have hc1 : w3.cell? ⟨b7, 1, none⟩ = some (.int .i64 0) := (blk_cell B7.out 1).trans rfl; have hc2 : w3.cell? ⟨b7, 2, none⟩ = some (.slice none 0 0) := (blk_cell B7.out 2).trans rfl; have hf0 := blk_frozen B7.out 0; have hf1 := blk_frozen B7.out 1; have hf2 := blk_frozen B7.out 2; have p0 := blk_put (cs' := #[.int .i64 x0, .int .i64 0, .slice none 0 0]) B7.out 0 (.int .i64 x0) rfl; have p1 := blk_put (cs' := #[.int .i64 x0, .int .i64 x1, .slice none 0 0]) p0 1 (.int .i64 x1) rfl; have BX := Aside0.mk (blk_put (cs' := #[.int .i64 x0, .int .i64 x1, .slice Ak nx ck]) p1 2 (.slice Ak nx ck) rfl); have HSX := Aside0.mk (((HS.out.far B7.out HG7.out.1 (i := 0) (.int .i64 x0)).far p0 HG7.out.1 (i := 1) (.int .i64 x1)).far p1 HG7.out.1 (i := 2) (.slice Ak nx ck)); have HKX := Aside0.mk (((HKP.out.far (p := ⟨b7, 0, none⟩) HG7.out.2.1 (.int .i64 x0)).far (p := ⟨b7, 1, none⟩) HG7.out.2.1 (.int .i64 x1)).far (p := ⟨b7, 2, none⟩) HG7.out.2.1 (.slice Ak nx ck)); have BX4 := Aside0.mk (blk_far (p := ⟨b7, 2, none⟩) (blk_far (p := ⟨b7, 1, none⟩) (blk_far (p := ⟨b7, 0, none⟩) B4.out HG7.out.2.2 (.int .i64 x0)) HG7.out.2.2 (.int .i64 x1)) HG7.out.2.2 (.slice Ak nx ck)); have q6 := HSX.out.cell6; have d0 : (((w3.setCell ⟨b7, 0, none⟩ (.int .i64 x0)).setCell ⟨b7, 1, none⟩ (.int .i64 x1)).setCell ⟨b7, 2, none⟩ (.slice Ak nx ck)).cell? ⟨b7, 0, none⟩ = some (.int .i64 x0) := (blk_cell BX.out 0).trans rfl; have d1 : (((w3.setCell ⟨b7, 0, none⟩ (.int .i64 x0)).setCell ⟨b7, 1, none⟩ (.int .i64 x1)).setCell ⟨b7, 2, none⟩ (.slice Ak nx ck)).cell? ⟨b7, 1, none⟩ = some (.int .i64 x1) := (blk_cell BX.out 1).trans rfl; have d2 : (((w3.setCell ⟨b7, 0, none⟩ (.int .i64 x0)).setCell ⟨b7, 1, none⟩ (.int .i64 x1)).setCell ⟨b7, 2, none⟩ (.slice Ak nx ck)).cell? ⟨b7, 2, none⟩ = some (.slice Ak nx ck) := (blk_cell BX.out 2).trans rfl; clear p0 p1 HS HKP B4 B7) | (go_loud (go_at_call 43; with_reducible refine (HIK.out _ HSX.out).mono ?_; rintro e w9 ⟨rfl, hs9, hk9⟩; have HS := Aside0.mk hs9; have HKP := Aside0.mk (HKX.out.trans hk9); have B4 := Aside0.mk (HSX.out.keeps hk9 BX4.out); clear hs9 hk9 HSX HKX BX4 BX)))
      go_roundg (m - (j + 1))
      case measure => omega
      case rel => exact ⟨j + 1, ys ++ za, zb, by go_num, by have hjm := hjl; rw [HM.out] at hjm; omega, Nat.le_refl _, HZ, HS, HKP, B4⟩
    · have hltz : ¬ (j : Int) < (m : Int) := by omega
      obtain rfl : j = m := by omega
      have hys : ys = xs ++ ln := by
        obtain ⟨h1, h2⟩ := hz.out
        rw [List.drop_of_length_le (by rw [HM.out]; exact Nat.le_refl _)] at h1
        obtain rfl := Option.some.inj h1
        rwa [List.append_nil] at h2
      clear hz
      obtain ⟨pb, hpb⟩ : ∃ q, group_Signs.pb sg lf = q := ⟨_, rfl⟩
      obtain ⟨pv, hpv⟩ : ∃ q, group_Signs.pv sg lf = q := ⟨_, rfl⟩
      have HIS := Aside0.mk (fun (W' : World) => group_Signs.is W' sg lf A j c)
      rw [hpb, hpv] at HIS
      have HPB := Lib.hid (show group_Signs.pb sg lf = pb ∧ group_Signs.pv sg lf = pv from ⟨hpb, hpv⟩)
      have hyl : ys.length ≤ 100000 := by
        have h1 := HNL.out
        rw [hys]
        simp only [List.length_append]
        omega
      have HYS := Lib.hid (show ys = xs ++ ln ∧ ys.length ≤ 100000 from ⟨hys, hyl⟩)
      clear hpb hpv hys hyl
      have q3 := HS.out.cell3
      have d0 : wr.cell? ⟨b4, 0, none⟩ = some (.int .i64 sg) := (blk_cell B4.out 0).trans rfl
      have d1 : wr.cell? ⟨b4, 1, none⟩ = some (.int .i64 lf) := (blk_cell B4.out 1).trans rfl
      have d2 : wr.cell? ⟨b4, 2, none⟩ = some (.slice A j c) := (blk_cell B4.out 2).trans rfl
      cases pb with
      | false =>
        go_wp2_with (go_at_call 26; with_reducible refine (HIS.out _).mono ?_; rintro e w9 ⟨rfl, hb⟩; have HS_ := Aside0.mk (HS.out.below hb); have HKP_ := Aside0.mk (HKP.out.trans (GKeep.below (b5 := b5) hb)); clear HS HKP hb; have HS := HS_; have HKP := HKP_; clear HS_ HKP_)
        go_end0
        refine ⟨rfl, ?_, HKP.out⟩
        have hn := HNEW.out
        rw [HPB.out.1, if_neg Bool.false_ne_true, List.append_nil] at hn
        rw [← hn, ← HYS.out.1]
        exact HS.out
      | true =>
        obtain ⟨v, h1, h2, h3, h4, h5, h6⟩ := HS.out
        obtain ⟨AX, cX, rfl⟩ := Kd.R_slice h3
        obtain ⟨nX, hnX⟩ : ∃ nX, ys.length = nX := ⟨_, rfl⟩
        rw [hnX] at h1 h3
        have HNX := Lib.hid hnX
        have H1 := Aside0.mk h1
        have H3 := Aside0.mk h3
        have H4 := Aside0.mk h4
        have H5 := Aside0.mk h5
        have H6 := Aside0.mk h6
        clear h1 h3 h4 h5 h6 HS hnX
        go_wp2_with (first | (go_at_call 26; with_reducible refine (HIS.out _).mono ?_; rintro e w9 ⟨rfl, hb⟩; have HKP_ := Aside0.mk (HKP.out.trans (GKeep.below (b5 := b5) hb)); have H1_ := Aside0.mk (blk_below (g := b5) H1.out hb); have H3_ := Aside0.mk (Kd.R_below H3.out hb); have H4_ := Aside0.mk (below_step H4.out hb); have H5_ := Aside0.mk (blk_below (g := b6) H5.out hb); have H6_ := Aside0.mk (blk_below (g := b3) H6.out hb); clear HKP H1 H3 H4 H5 H6 hb; have HKP := HKP_; have H1 := H1_; have H3 := H3_; have H4 := H4_; have H5 := H5_; have H6 := H6_; clear HKP_ H1_ H3_ H4_ H5_ H6_; have e5 : w9.cell? ⟨b5, 0, none⟩ = some (.slice AX nX cX) := (blk_cell H1.out 0).trans rfl) | (at_builtin; go_loud (refine Kd.R_append (Kd.int .i64) (w0 := w0) w0.heap.size rfl _ _ 38 3 (.int .i64 0) 8 rfl hu38 gth_int_map rfl (by decide) (by decide) (.slice AX nX cX) ys pv [.int .i64 pv] (fun k => k ≠ b5) (fun _ => False) rfl rfl rfl (fun _ h_ => h_.elim) (fun k hk => by have := blk_lt H1.out; omega) H3.out H4.out H4.out.size ?hl ?hk)))
        case hl => have := HYS.out.2; omega
        case hk =>
          intro v1 w4 ho hb hgr hat
          have H1b := Aside0.mk (blk_grown H1.out hgr (fun e => absurd rfl (H3.out.1 b5 e.symm)))
          have hty : ∀ k, (Value.slice AX nX cX).ownBlock = some k → ∃ cells, w9.heap[k]? = some (.cells cells 3 (0, 0)) := Kd.N_typed (Kd.R_N H3.out)
          have H5b := Aside0.mk (blk_grown H5.out hgr (fun e => by obtain ⟨c2, h2⟩ := hty _ e.symm; exact blk_ne H5.out h2 (by decide) rfl))
          have H6b := Aside0.mk (blk_grown H6.out hgr (fun e => by obtain ⟨c2, h2⟩ := hty _ e.symm; exact blk_ne H6.out h2 (by decide) rfl))
          have HKb := Aside0.mk (HKP.out.trans (GKeep.grown (b5 := b5) hgr hty))
          have H3b := Aside0.mk ho
          have H4b := Aside0.mk hb
          clear ho hb hgr hat hty H1 H3 H4 H5 H6 HKP e5
          obtain ⟨A1, c1, rfl⟩ := Kd.R_slice H3b.out
          obtain ⟨n1, hn1⟩ : ∃ n1, (ys ++ [pv]).length = n1 := ⟨_, rfl⟩
          rw [hn1] at H3b ⊢
          have e5 : w4.cell? ⟨b5, 0, none⟩ = some (.slice AX nX cX) := (blk_cell H1b.out 0).trans rfl
          have hfz := blk_frozen H1b.out 0
          go_wp2_with fail
          go_end0
          refine ⟨rfl, ⟨.slice A1 n1 c1, blk_put H1b.out 0 _ rfl, h2, Kd.R_far (p := ⟨b5, 0, none⟩) ?_ (fun k hk => hk) _, below_set (j := 0) (v := .slice A1 n1 c1) H4b.out h2, blk_far H5b.out (blk_ne H5b.out H1b.out (by decide)) _, blk_far H6b.out (blk_ne H6b.out H1b.out (by decide)) _⟩, HKb.out.trans GKeep.set⟩
          have hn := HNEW.out
          rw [HPB.out.1, HPB.out.2, if_pos rfl] at hn
          rw [← hn, ← List.append_assoc, ← HYS.out.1]
          exact H3b.out
set_option maxHeartbeats 8000000 in
set_option maxRecDepth 100000 in
theorem group_Signs.gth (k : Nat) (sg lf : Int) (A : Option Addr) (c : Nat) (l : List S27) (new : List Int) (w : World) (hk : Kd.C k27 w A l.length l) (hc : l.length ≤ c) (h : gthF group_Signs.pv group_Signs.pb k ⟨sg, lf, l⟩ = some new) (hsz : new.length ≤ 100000) :
    Calls Try.prog 24 #[.agg #[.int .i64 sg, .int .i64 lf, .slice A l.length c], .func (.func 26) #[] #[]] w fun e w' => ∃ v0_ : Value, e = .returned v0_ ∧ Kd.R (Kd.int .i64) 3 w' w.heap.size (fun _ => True) v0_ new ∧ Below w.heap.size w w' := by
  have hu27 := Try.underlying27
  have hu38 := Try.underlying38
  have hmf : ∀ (fn : Fn) (first cap : Array Value) (w : World), (Instr.makeFunc fn first cap).run Try.prog w = .ok (.func fn first cap) w := fun _ _ _ _ => rfl
  have HW := Aside0.mk (group_Signs.walk k sg lf A c l new w hk hc h)
  obtain ⟨m, hm⟩ : ∃ m, l.length = m := ⟨_, rfl⟩
  rw [hm] at HW ⊢
  clear hk hc h hm
  have HB := Aside0.mk (Below.refl w.heap.size w)
  go_enter Try.func24, Try.ntmps24
  go_wp2_with (first | ((with_reducible refine gate_dst (N := 2) rfl ?_); refine box_event ?hg (N := 2) ?hd (cs := #[.int .i64 sg, .int .i64 lf, .slice A m c]) (t := 27) ?hr ?_; (case hd => rfl); (case hg => rfl); (case hr => first | (go_simp; done) | (go_simp; rfl)); intro b2 hg_ w2 hbox hb; have B2 := Aside0.mk hbox; clear hbox; have HB_ := Aside0.mk (below_step HB.out hb); clear HB hb hg_; have HB := HB_; clear HB_) | ((with_reducible refine gate_dst (N := 3) rfl ?_); refine box_event ?hg (N := 3) ?hd (cs := #[.func (.func 26) #[] #[]]) (t := 50) ?hr ?_; (case hd => rfl); (case hg => rfl); (case hr => first | (go_simp; done) | (go_simp; rfl)); intro b3 hg_ w3 hbox hb; have B3 := Aside0.mk hbox; clear hbox; have HB_ := Aside0.mk (below_step HB.out hb); have B2_ := Aside0.mk (blk_below (g := b2) B2.out hb); clear HB B2 hb hg_; have HB := HB_; have B2 := B2_; clear HB_ B2_) | ((with_reducible refine gate_dst (N := 5) rfl ?_); refine box_event ?hg (N := 5) ?hd (cs := #[.slice none 0 0]) (t := 38) ?hr ?_; (case hd => rfl); (case hg => rfl); (case hr => first | (go_simp; done) | (go_simp; rfl)); intro b5 hg_ w5 hbox hb; have B5 := Aside0.mk hbox; clear hbox; have GE5 := Aside0.mk (show w.heap.size ≤ b5 by rw [hg_]; exact HB.out.size); have HB_ := Aside0.mk (below_step HB.out hb); have B2_ := Aside0.mk (blk_below (g := b2) B2.out hb); have B3_ := Aside0.mk (blk_below (g := b3) B3.out hb); clear HB B2 B3 hb hg_; have HB := HB_; have B2 := B2_; have B3 := B3_; clear HB_ B2_ B3_) | ((with_reducible refine gate_dst (N := 6) rfl ?_); refine box_event ?hg (N := 6) ?hd (cs := #[.nilFunc]) (t := 57) ?hr ?_; (case hd => rfl); (case hg => rfl); (case hr => first | (go_simp; done) | (go_simp; rfl)); intro b6 hg_ w6 hbox hb; have B6 := Aside0.mk hbox; clear hbox; have GE6 := Aside0.mk (show w.heap.size ≤ b6 by rw [hg_]; exact HB.out.size); have HB_ := Aside0.mk (below_step HB.out hb); have B2_ := Aside0.mk (blk_below (g := b2) B2.out hb); have B3_ := Aside0.mk (blk_below (g := b3) B3.out hb); have B5_ := Aside0.mk (blk_below (g := b5) B5.out hb); clear HB B2 B3 B5 hb hg_; have HB := HB_; have B2 := B2_; have B3 := B3_; have B5 := B5_; clear HB_ B2_ B3_ B5_; have c6 : w6.cell? ⟨b6, 0, none⟩ = some .nilFunc := (blk_cell B6.out 0).trans rfl; have f6 := blk_frozen B6.out 0; (have HG := Aside0.mk (show GSt w (w6.setCell ⟨b6, 0, none⟩ (.func (.func 43) #[] #[.pointer (some ⟨b6, 0, none⟩), .pointer (some ⟨b3, 0, none⟩), .pointer (some ⟨b5, 0, none⟩)])) b3 b5 b6 26 [] from ⟨.slice none 0 0, blk_far B5.out (blk_ne B5.out B6.out (by decide)) _, GE5.out, Kd.R_nil _ _ _ _ _, below_set (j := 0) (v := (.func (.func 43) #[] #[.pointer (some ⟨b6, 0, none⟩), .pointer (some ⟨b3, 0, none⟩), .pointer (some ⟨b5, 0, none⟩)])) HB.out GE6.out, blk_put B6.out 0 _ rfl, blk_far B3.out (blk_ne B3.out B6.out (by decide)) _⟩); have q6 := HG.out.cell6; have BX := Aside0.mk (blk_far (p := ⟨b6, 0, none⟩) B2.out (blk_ne B2.out B6.out (by decide)) (.func (.func 43) #[] #[.pointer (some ⟨b6, 0, none⟩), .pointer (some ⟨b3, 0, none⟩), .pointer (some ⟨b5, 0, none⟩)])); have d0 : (w6.setCell ⟨b6, 0, none⟩ (.func (.func 43) #[] #[.pointer (some ⟨b6, 0, none⟩), .pointer (some ⟨b3, 0, none⟩), .pointer (some ⟨b5, 0, none⟩)])).cell? ⟨b2, 0, none⟩ = some (.int .i64 sg) := (blk_cell BX.out 0).trans rfl; have d1 : (w6.setCell ⟨b6, 0, none⟩ (.func (.func 43) #[] #[.pointer (some ⟨b6, 0, none⟩), .pointer (some ⟨b3, 0, none⟩), .pointer (some ⟨b5, 0, none⟩)])).cell? ⟨b2, 1, none⟩ = some (.int .i64 lf) := (blk_cell BX.out 1).trans rfl; have d2 : (w6.setCell ⟨b6, 0, none⟩ (.func (.func 43) #[] #[.pointer (some ⟨b6, 0, none⟩), .pointer (some ⟨b3, 0, none⟩), .pointer (some ⟨b5, 0, none⟩)])).cell? ⟨b2, 2, none⟩ = some (.slice A m c) := (blk_cell BX.out 2).trans rfl)) | (go_loud (go_at_call 43; with_reducible refine (HW.out _ b3 b5 b6 [] HG.out (by simpa using hsz)).mono ?_; rintro e w9 ⟨rfl, hs9, -⟩; obtain ⟨AX, nX, cX, hnX, q5, h3, h4⟩ := hs9.ends; have HX := Aside0.mk h3; have HB9 := Aside0.mk h4; clear h3 h4 hnX hs9)))
  go_ret
  exact ⟨_, rfl, HX.out, HB9.out⟩
set_option maxHeartbeats 8000000 in
set_option maxRecDepth 100000 in
theorem group_Signs.calls (k : Nat) (a0_0 : Int) (a0_1 : Int) (A0_2 : Option Addr) (c0_2 : Nat) (l0_2 : List S27) (r : List Int) (w : World) (hr0_2 : Kd.C k27 w A0_2 l0_2.length l0_2) (hc0_2 : l0_2.length ≤ c0_2) (h : group_Signs.f k a0_0 a0_1 l0_2 = some r) :
    Calls Try.prog 15 #[.agg #[.int .i64 a0_0, .int .i64 a0_1, .slice A0_2 l0_2.length c0_2]] w fun e w' => ∃ v0_ : Value, e = .returned (v0_) ∧ Kd.R (Kd.int .i64) 3 w' w.heap.size (fun _ => True) v0_ r ∧ Below w.heap.size w w' := by
  have hu27 := Try.underlying27
  unfold group_Signs.f at h
  obtain ⟨ln, hln, h⟩ := Option.bind_eq_some_iff.1 h
  by_cases hsz : ln.length ≤ 100000
  case neg => rw [if_neg hsz] at h; cases h
  rw [if_pos hsz] at h
  obtain rfl := Option.some.inj h
  clear h
  have HG := Aside0.mk (fun (W : World) (hb : Below w.heap.size w W) => group_Signs.gth k a0_0 a0_1 A0_2 c0_2 l0_2 ln W (Kd.C_below hr0_2 hb) hc0_2 hln hsz)
  obtain ⟨m, hm⟩ : ∃ m, l0_2.length = m := ⟨_, rfl⟩
  rw [hm] at HG ⊢
  clear hr0_2 hc0_2 hln hsz hm
  have HB := Aside0.mk (Below.refl w.heap.size w)
  go_enter Try.func15, Try.ntmps15
  go_wp2_with (first | ((with_reducible refine gate_dst (N := 1) rfl ?_); refine box_event ?hg (N := 1) ?hd (cs := #[.int .i64 a0_0, .int .i64 a0_1, .slice A0_2 m c0_2]) (t := 27) ?hr ?_; (case hd => rfl); (case hg => rfl); (case hr => first | (go_simp; done) | (go_simp; rfl)); intro b1 hg_ w1 hbox hb; have B1 := Aside0.mk hbox; clear hbox; have HB_ := Aside0.mk (below_step HB.out hb); clear HB hb hg_; have HB := HB_; clear HB_; have d0 : w1.cell? ⟨b1, 0, none⟩ = some (.int .i64 a0_0) := (blk_cell B1.out 0).trans rfl; have d1 : w1.cell? ⟨b1, 1, none⟩ = some (.int .i64 a0_1) := (blk_cell B1.out 1).trans rfl; have d2 : w1.cell? ⟨b1, 2, none⟩ = some (.slice A0_2 m c0_2) := (blk_cell B1.out 2).trans rfl) | (go_at_call 24; with_reducible refine (HG.out _ HB.out).mono ?_; rintro e w9 ⟨v, rfl, hR, hb⟩; have HB9 := Aside0.mk (below_step HB.out hb); have HR9 := Aside0.mk (Kd.R_lower hR HB.out.size); clear hR hb))
  go_ret
  exact ⟨_, rfl, HR9.out, HB9.out⟩



/-! ### oriellaw31_levels: function 16 -/
mutual
def oriellaw31_levels.j0 : Nat → List ByteArray → Bool → Int → Int → List (S27) → Option (Bool)
  | 0, _, _, _, _, _ => none
  | k + 1, x1, x19, x164000, x164001, x164002 => if x19 = true then (some ((x164002.length : Int) == 0)) else (if 0 ≤ x164000 then (if x164000 < (x1.length : Int) then ((name_Level.f k (rdOf ByteArray.empty x1 x164000)).bind fun bt165 => (oriellaw31_levels.l0 k x1 bt165.1 bt165.2 x164002 (x164002.length : Int) 0)) else (none)) else (none))
def oriellaw31_levels.l0 : Nat → List ByteArray → Int → Bool → List (S27) → Int → Int → Option (Bool)
  | 0, _, _, _, _, _, _ => none
  | k + 1, x1, x5, x6, x34, x35, x36 => if x36 < x35 then (if 0 ≤ x36 then (if x36 < (x34.length : Int) then (if ((rd_T27 x34 x36).f0) ≥ 0 then (if 0 ≤ ((rd_T27 x34 x36).f0) then (if ((rd_T27 x34 x36).f0) < (x1.length : Int) then ((name_Level.f k (rdOf ByteArray.empty x1 ((rd_T27 x34 x36).f0))).bind fun bt170 => (if bt170.1 < x5 then (oriellaw31_levels.j2 k x1 x5 x6 x34 x35 x36 true ((rd_T27 x34 x36).f0) ((rd_T27 x34 x36).f1) ((rd_T27 x34 x36).f2)) else (if bt170.1 = x5 then (oriellaw31_levels.j2 k x1 x5 x6 x34 x35 x36 ((x36 == 1) != x6) ((rd_T27 x34 x36).f0) ((rd_T27 x34 x36).f1) ((rd_T27 x34 x36).f2)) else (oriellaw31_levels.j2 k x1 x5 x6 x34 x35 x36 false ((rd_T27 x34 x36).f0) ((rd_T27 x34 x36).f1) ((rd_T27 x34 x36).f2))))) else (none)) else (none)) else ((oriellaw31_levels.f k ((rd_T27 x34 x36).f0) ((rd_T27 x34 x36).f1) ((rd_T27 x34 x36).f2) x1).bind fun t173 => (if t173 = true then (oriellaw31_levels.l0 k x1 x5 x6 x34 x35 (wrap64 (x36 + 1))) else (some false)))) else (none)) else (none)) else (some true)
def oriellaw31_levels.j2 : Nat → List ByteArray → Int → Bool → List (S27) → Int → Int → Bool → Int → Int → List (S27) → Option (Bool)
  | 0, _, _, _, _, _, _, _, _, _, _ => none
  | k + 1, x1, x5, x6, x34, x35, x36, x66, x169000, x169001, x169002 => if x66 = true then (some false) else ((oriellaw31_levels.f k x169000 x169001 x169002 x1).bind fun t172 => (if t172 = true then (oriellaw31_levels.l0 k x1 x5 x6 x34 x35 (wrap64 (x36 + 1))) else (some false)))
def oriellaw31_levels.f : Nat → Int → Int → List (S27) → List ByteArray → Option (Bool)
  | 0, _, _, _, _ => none
  | k + 1, a0_0, a0_1, l0_2, l1 => if a0_0 < 0 then (oriellaw31_levels.j0 k l1 true a0_0 a0_1 l0_2) else (oriellaw31_levels.j0 k l1 ((l0_2.length : Int) != 2) a0_0 a0_1 l0_2)
end
theorem oriellaw31_levels.mono_l : ∀ k, (∀ y0 y1 y2 y3, LeO (oriellaw31_levels.f k y0 y1 y2 y3) (oriellaw31_levels.f (k + 1) y0 y1 y2 y3)) ∧ (∀ y0 y1 y2 y3 y4, LeO (oriellaw31_levels.j0 k y0 y1 y2 y3 y4) (oriellaw31_levels.j0 (k + 1) y0 y1 y2 y3 y4)) ∧ (∀ y0 y1 y2 y3 y4 y5, LeO (oriellaw31_levels.l0 k y0 y1 y2 y3 y4 y5) (oriellaw31_levels.l0 (k + 1) y0 y1 y2 y3 y4 y5)) ∧ (∀ y0 y1 y2 y3 y4 y5 y6 y7 y8 y9, LeO (oriellaw31_levels.j2 k y0 y1 y2 y3 y4 y5 y6 y7 y8 y9) (oriellaw31_levels.j2 (k + 1) y0 y1 y2 y3 y4 y5 y6 y7 y8 y9))
  | 0 => ⟨fun _ _ _ _ r h => by simp [oriellaw31_levels.f] at h, fun _ _ _ _ _ r h => by simp [oriellaw31_levels.j0] at h, fun _ _ _ _ _ _ r h => by simp [oriellaw31_levels.l0] at h, fun _ _ _ _ _ _ _ _ _ _ r h => by simp [oriellaw31_levels.j2] at h⟩
  | k + 1 => by
    obtain ⟨ih0, ih1, ih2, ih3⟩ := oriellaw31_levels.mono_l k
    refine ⟨?_, ?_, ?_, ?_⟩
    · intro y0 y1 y2 y3
      unfold oriellaw31_levels.f
      repeat' first
      | (with_reducible exact ih0 _ _ _ _)
      | (with_reducible exact ih1 _ _ _ _ _)
      | (with_reducible exact ih2 _ _ _ _ _ _)
      | (with_reducible exact ih3 _ _ _ _ _ _ _ _ _ _)
      | (with_reducible exact name_Level.mono _ _)
      | (with_reducible exact LeO.refl _)
      | (with_reducible exact LeO.none _)
      | (with_reducible refine LeO.ite ?_ ?_)
      | (with_reducible refine LeO.bind ?_ (fun _ => ?_))
      | exact ih0 _ _ _ _
      | exact ih1 _ _ _ _ _
      | exact ih2 _ _ _ _ _ _
      | exact ih3 _ _ _ _ _ _ _ _ _ _
      | exact name_Level.mono _ _
      | exact LeO.none _
      | refine LeO.ite ?_ ?_
      | refine LeO.bind ?_ (fun _ => ?_)
    · intro y0 y1 y2 y3 y4
      unfold oriellaw31_levels.j0
      repeat' first
      | (with_reducible exact ih0 _ _ _ _)
      | (with_reducible exact ih1 _ _ _ _ _)
      | (with_reducible exact ih2 _ _ _ _ _ _)
      | (with_reducible exact ih3 _ _ _ _ _ _ _ _ _ _)
      | (with_reducible exact name_Level.mono _ _)
      | (with_reducible exact LeO.refl _)
      | (with_reducible exact LeO.none _)
      | (with_reducible refine LeO.ite ?_ ?_)
      | (with_reducible refine LeO.bind ?_ (fun _ => ?_))
      | exact ih0 _ _ _ _
      | exact ih1 _ _ _ _ _
      | exact ih2 _ _ _ _ _ _
      | exact ih3 _ _ _ _ _ _ _ _ _ _
      | exact name_Level.mono _ _
      | exact LeO.none _
      | refine LeO.ite ?_ ?_
      | refine LeO.bind ?_ (fun _ => ?_)
    · intro y0 y1 y2 y3 y4 y5
      unfold oriellaw31_levels.l0
      repeat' first
      | (with_reducible exact ih0 _ _ _ _)
      | (with_reducible exact ih1 _ _ _ _ _)
      | (with_reducible exact ih2 _ _ _ _ _ _)
      | (with_reducible exact ih3 _ _ _ _ _ _ _ _ _ _)
      | (with_reducible exact name_Level.mono _ _)
      | (with_reducible exact LeO.refl _)
      | (with_reducible exact LeO.none _)
      | (with_reducible refine LeO.ite ?_ ?_)
      | (with_reducible refine LeO.bind ?_ (fun _ => ?_))
      | exact ih0 _ _ _ _
      | exact ih1 _ _ _ _ _
      | exact ih2 _ _ _ _ _ _
      | exact ih3 _ _ _ _ _ _ _ _ _ _
      | exact name_Level.mono _ _
      | exact LeO.none _
      | refine LeO.ite ?_ ?_
      | refine LeO.bind ?_ (fun _ => ?_)
    · intro y0 y1 y2 y3 y4 y5 y6 y7 y8 y9
      unfold oriellaw31_levels.j2
      repeat' first
      | (with_reducible exact ih0 _ _ _ _)
      | (with_reducible exact ih1 _ _ _ _ _)
      | (with_reducible exact ih2 _ _ _ _ _ _)
      | (with_reducible exact ih3 _ _ _ _ _ _ _ _ _ _)
      | (with_reducible exact name_Level.mono _ _)
      | (with_reducible exact LeO.refl _)
      | (with_reducible exact LeO.none _)
      | (with_reducible refine LeO.ite ?_ ?_)
      | (with_reducible refine LeO.bind ?_ (fun _ => ?_))
      | exact ih0 _ _ _ _
      | exact ih1 _ _ _ _ _
      | exact ih2 _ _ _ _ _ _
      | exact ih3 _ _ _ _ _ _ _ _ _ _
      | exact name_Level.mono _ _
      | exact LeO.none _
      | refine LeO.ite ?_ ?_
      | refine LeO.bind ?_ (fun _ => ?_)
theorem oriellaw31_levels.mono : ∀ a0 a1 a2 a3 k, LeO (oriellaw31_levels.f k a0 a1 a2 a3) (oriellaw31_levels.f (k + 1) a0 a1 a2 a3) := by
  intro a0 a1 a2 a3 k
  obtain ⟨ih0, ih1, ih2, ih3⟩ := oriellaw31_levels.mono_l k
  exact ih0 a0 a1 a2 a3
set_option maxHeartbeats 8000000 in
set_option maxRecDepth 100000 in
theorem oriellaw31_levels.calls (k : Nat) : ∀ (a0_0 : Int) (a0_1 : Int) (A0_2 : Option Addr) (c0_2 : Nat) (l0_2 : List (S27)) (A1 : Option Addr) (c1 : Nat) (l1 : List ByteArray) (r : Bool) (w : World) (hr0_2 : Kd.C k27 w A0_2 l0_2.length l0_2) (hc0_2 : l0_2.length ≤ c0_2) (hr1 : Kd.C Kd.string w A1 l1.length l1) (hc1 : l1.length ≤ c1) (h : oriellaw31_levels.f k a0_0 a0_1 l0_2 l1 = some r),
    Calls Try.prog 16 #[.agg #[.int .i64 a0_0, .int .i64 a0_1, .slice A0_2 l0_2.length c0_2], .slice A1 l1.length c1] w fun e w' => e = .returned (.bool r) ∧ Below w.heap.size w w' := by
  induction k using Nat.strongRecOn with
  | _ k ih =>
  intro a0_0 a0_1 A0_2 c0_2 l0_2 A1 c1 l1 r w hr0_2 hc0_2 hr1 hc1 h
  cases k with
  | zero => exact absurd h (by simp [oriellaw31_levels.f])
  | succ k =>
  simp only [oriellaw31_levels.f] at h
  have hu27 := Try.underlying27
  have HR0_2 := Aside0.mk hr0_2
  have HC0_2 := Aside0.mk hc0_2
  clear hr0_2 hc0_2
  have HR1 := Aside0.mk hr1
  have HC1 := Aside0.mk hc1
  clear hr1 hc1
  have HB := Aside0.mk (Below.refl w.heap.size w)
  have H : (if a0_0 < 0 then (oriellaw31_levels.j0 k l1 true a0_0 a0_1 l0_2) else (oriellaw31_levels.j0 k l1 ((l0_2.length : Int) != 2) a0_0 a0_1 l0_2)) = some r := h
  clear h
  have HC3 := Aside0.mk H
  clear H
  go_enter Try.func16, Try.ntmps16
  go_upto_region 1 with (first | ((with_reducible refine gate_dst (N := 2) rfl ?_); (try (refine gate_guard (by rfl) ?_; dsimp only)); refine box_event ?hg (N := 2) ?hd (cs := #[.int .i64 a0_0, .int .i64 a0_1, .slice A0_2 l0_2.length c0_2]) (t := 27) ?hr ?_; (case hd => rfl); (case hg => rfl); (case hr => first | (go_simp; done) | (go_simp; rfl)); intro gb163 hg w4 hbox hb; have n0_ := Aside0.mk (below_step (by repeat (first | (with_reducible first | exact HB.out | apply below_alloc | apply pw_below_drewN | apply below_drew1) | exact HB.out)) hb); have n1_ := Aside0.mk (hbox); have n2_ := Aside0.mk ((by rw [hg]; exact (below_size (by repeat (first | (with_reducible first | exact HB.out | apply below_alloc | apply pw_below_drewN | apply below_drew1) | exact HB.out))) : w.heap.size ≤ gb163)); have n3_ := Aside0.mk ((by rw [hg]; exact (below_size (by repeat (first | (with_reducible first | exact HB.out | apply below_alloc | apply pw_below_drewN | apply below_drew1) | exact HB.out))) : w.heap.size ≤ gb163)); clear HB; have HB := n0_; have BK163 := n1_; have GW163 := n2_; have GE163 := n3_; clear n0_ n1_ n2_ n3_; clear hb hbox hg))
  (try simp only [Act.put, List.setIfInBounds_toArray, List.set_cons_zero, List.set_cons_succ])
  go_cut [19] (fun v19 wc => ∃ (kq : Nat) (x19_2 : Bool), v19 = .bool x19_2 ∧ Aside0 (oriellaw31_levels.j0 kq l1 x19_2 a0_0 a0_1 l0_2 = some r) ∧ Aside0 (kq ≤ k) ∧ Aside0 (wc.heap[gb163]? = some (.cells #[.int .i64 a0_0, .int .i64 a0_1, (.slice A0_2 l0_2.length c0_2)] 27 (0, 0))) ∧ Aside0 (Below w.heap.size w wc))
  case first =>
    have H := HC3.out
    clear HC3
    by_cases c5 : a0_0 < 0
    · rw [if_pos c5] at H
      have c5b0 : decide (a0_0 < 0) = true := decide_eq_true c5
      clear c5
      (first | rw [c5b0] | (simp only [i64_w, i32_w]; rw [c5b0]) | skip)
      have H' := Aside0.mk H
      clear H
      have hcz6_0 : w4.cell? ⟨gb163, 0, none⟩ = some (.int .i64 a0_0) := (blk_cell BK163.out 0).trans rfl
      have hcz6_1 : w4.cell? ⟨gb163, 1, none⟩ = some (.int .i64 a0_1) := (blk_cell BK163.out 1).trans rfl
      have hcz6_2 : w4.cell? ⟨gb163, 2, none⟩ = some (.slice A0_2 l0_2.length c0_2) := (blk_cell BK163.out 2).trans rfl
      have hfz6_0 := blk_frozen BK163.out 0
      have hfz6_1 := blk_frozen BK163.out 1
      have hfz6_2 := blk_frozen BK163.out 2
      go_wp2
      go_meet
      case rel => exact ⟨_, (true), (by first | rfl | (simp; done) | (simp [*]; done)), H', ⟨by first | omega | exact Nat.le_refl _⟩, ⟨by (with_reducible repeat (first | refine blk_drewN ?_ _ | refine blk_drew ?_ | refine blk_alloc ?_ _)); exact BK163.out⟩, ⟨by repeat (first | (with_reducible first | exact HB.out | apply below_alloc | apply pw_below_drewN | apply below_drew1 | refine below_set ?_ GE163.out) | exact HB.out)⟩⟩
    · rw [if_neg c5] at H
      have c5b0 : decide (a0_0 < 0) = false := decide_eq_false c5
      clear c5
      (first | rw [c5b0] | (simp only [i64_w, i32_w]; rw [c5b0]) | skip)
      have H' := Aside0.mk H
      clear H
      have hcz7_0 : w4.cell? ⟨gb163, 0, none⟩ = some (.int .i64 a0_0) := (blk_cell BK163.out 0).trans rfl
      have hcz7_1 : w4.cell? ⟨gb163, 1, none⟩ = some (.int .i64 a0_1) := (blk_cell BK163.out 1).trans rfl
      have hcz7_2 : w4.cell? ⟨gb163, 2, none⟩ = some (.slice A0_2 l0_2.length c0_2) := (blk_cell BK163.out 2).trans rfl
      have hfz7_0 := blk_frozen BK163.out 0
      have hfz7_1 := blk_frozen BK163.out 1
      have hfz7_2 := blk_frozen BK163.out 2
      go_wp2
      go_meet
      case rel => exact ⟨_, (((l0_2.length : Int) != 2)), (by first | rfl | (simp; done) | (simp [*]; done)), H', ⟨by first | omega | exact Nat.le_refl _⟩, ⟨by (with_reducible repeat (first | refine blk_drewN ?_ _ | refine blk_drew ?_ | refine blk_alloc ?_ _)); exact BK163.out⟩, ⟨by repeat (first | (with_reducible first | exact HB.out | apply below_alloc | apply pw_below_drewN | apply below_drew1 | refine below_set ?_ GE163.out) | exact HB.out)⟩⟩
  case rest =>
    clear HC3
    try clear c1
    try clear p2
    try clear c5
    try clear c5b0
    try clear hcz6_0
    try clear hcz6_1
    try clear hcz6_2
    try clear hcz7_0
    try clear hcz7_1
    try clear hcz7_2
    try clear hfz6_0
    try clear hfz6_1
    try clear hfz6_2
    try clear hfz7_0
    try clear hfz7_1
    try clear hfz7_2
    obtain ⟨kq, x19_2, rfl, HA, HJ2, BK163, HB⟩ := hcut
    cases kq with
    | zero => exact absurd HA.out (by simp [oriellaw31_levels.j0])
    | succ kj2 =>
      have H := HA.out
      clear HA
      simp only [oriellaw31_levels.j0] at H
      by_cases c8 : x19_2 = true
      · subst c8
        have H1 : (some ((l0_2.length : Int) == 0)) = some r := by rw [if_pos rfl] at H; exact H
        clear H
        have H := H1
        clear H1
        obtain rfl := Option.some.inj H
        have hcz9_0 : wc.cell? ⟨gb163, 0, none⟩ = some (.int .i64 a0_0) := (blk_cell BK163.out 0).trans rfl
        have hcz9_1 : wc.cell? ⟨gb163, 1, none⟩ = some (.int .i64 a0_1) := (blk_cell BK163.out 1).trans rfl
        have hcz9_2 : wc.cell? ⟨gb163, 2, none⟩ = some (.slice A0_2 l0_2.length c0_2) := (blk_cell BK163.out 2).trans rfl
        have hfz9_0 := blk_frozen BK163.out 0
        have hfz9_1 := blk_frozen BK163.out 1
        have hfz9_2 := blk_frozen BK163.out 2
        go_wp2
        go_ret
        exact ⟨by first | rfl | (simp [errW_none, errW_some] <;> rfl) | (simp [*, errW_none, errW_some] <;> rfl), by repeat (first | (with_reducible first | exact HB.out | apply below_alloc | apply pw_below_drewN | apply below_drew1 | refine below_set ?_ GE163.out) | exact HB.out)⟩
      · replace c8 := Bool.eq_false_iff.mpr c8
        subst c8
        have H1 : (if 0 ≤ a0_0 then (if a0_0 < (l1.length : Int) then ((name_Level.f kj2 (rdOf ByteArray.empty l1 a0_0)).bind fun bt165 => (oriellaw31_levels.l0 kj2 l1 bt165.1 bt165.2 l0_2 (l0_2.length : Int) 0)) else (none)) else (none)) = some r := by rw [if_neg (show ¬ (false = true) by decide)] at H; exact H
        clear H
        have H := H1
        clear H1
        by_cases c10 : 0 ≤ a0_0
        · rw [if_pos c10] at H
          have c10b0 : decide (0 ≤ a0_0) = true := decide_eq_true c10
          clear c10
          by_cases c11 : a0_0 < (l1.length : Int)
          · rw [if_pos c11] at H
            have c11b0 : decide (a0_0 < (l1.length : Int)) = true := decide_eq_true c11
            clear c11
            replace H := Option.bind_eq_some_iff.mp H
            obtain ⟨⟨t165, t166⟩, A120, H⟩ := H
            replace H : (oriellaw31_levels.l0 kj2 l1 t165 t166 l0_2 (l0_2.length : Int) 0) = some r := H
            have A12 := Aside0.mk A120
            clear A120
            have H' := Aside0.mk H
            clear H
            have hcz13_0 : wc.cell? ⟨gb163, 0, none⟩ = some (.int .i64 a0_0) := (blk_cell BK163.out 0).trans rfl
            have hcz13_1 : wc.cell? ⟨gb163, 1, none⟩ = some (.int .i64 a0_1) := (blk_cell BK163.out 1).trans rfl
            have hcz13_2 : wc.cell? ⟨gb163, 2, none⟩ = some (.slice A0_2 l0_2.length c0_2) := (blk_cell BK163.out 2).trans rfl
            have hfz13_0 := blk_frozen BK163.out 0
            have hfz13_1 := blk_frozen BK163.out 1
            have hfz13_2 := blk_frozen BK163.out 2
            have p164 : 0 ≤ (a0_0 : Int) := of_decide_eq_true (by first | (with_reducible assumption) | assumption)
            have q164 : a0_0 < (l1.length : Int) := of_decide_eq_true (by first | (with_reducible assumption) | assumption)
            obtain ⟨ad164, e164, hx164_0⟩ := Kd.at_string HR1.out a0_0 p164 q164
            cases e164
            replace hx164_0 := (HB.out.cell (World.block_lt_of_cell? w _ hx164_0)).trans hx164_0
            replace p164 := eq_true p164
            replace q164 := eq_true q164
            go_wp2_with (first | ((with_reducible refine gate_callee (f := 18) rfl ?_); refine goesL_ (some 30) rfl rfl Try.func18 (by kernel_rfl) rfl #[.string (rdOf ByteArray.empty l1 a0_0)] rfl (by (try simp only [List.map_toArray, List.map_cons, List.map_nil]); first | done | rfl | (simp only [List.length_drop, List.length_take]; rfl)) ?_; (with_reducible refine (name_Level.calls kj2 (rdOf ByteArray.empty l1 a0_0) t165 t166 _ A12.out).mono ?_); rintro e w14 ⟨rfl, hb⟩; refine ⟨_, rfl, ?_⟩; have n0_ := Aside0.mk (blk_below (g := gb163) (o := .cells #[.int .i64 a0_0, .int .i64 a0_1, .slice A0_2 l0_2.length c0_2] 27 (0, 0)) (by (with_reducible repeat (first | refine blk_drewN ?_ _ | refine blk_drew ?_ | refine blk_alloc ?_ _)); exact BK163.out) hb); have n1_ := Aside0.mk (below_step (by repeat (first | (with_reducible first | exact HB.out | apply below_alloc | apply pw_below_drewN | apply below_drew1 | refine below_set ?_ GE163.out) | exact HB.out)) hb); clear BK163; clear HB; have BK163 := n0_; have HB := n1_; clear n0_ n1_; (try clear hb); (try clear hb2); (try clear hk); (try clear hi); have hcz15_0 : w14.cell? ⟨gb163, 0, none⟩ = some (.int .i64 a0_0) := (blk_cell BK163.out 0).trans rfl; have hcz15_1 : w14.cell? ⟨gb163, 1, none⟩ = some (.int .i64 a0_1) := (blk_cell BK163.out 1).trans rfl; have hcz15_2 : w14.cell? ⟨gb163, 2, none⟩ = some (.slice A0_2 l0_2.length c0_2) := (blk_cell BK163.out 2).trans rfl; have hfz15_0 := blk_frozen BK163.out 0; have hfz15_1 := blk_frozen BK163.out 1; have hfz15_2 := blk_frozen BK163.out 2))
            go_loopg [36] kj2 (fun kq v36 w' => ∃ (x36_2 : Int), v36 = .int .i64 x36_2 ∧ Aside0 (oriellaw31_levels.l0 kq l1 t165 t166 l0_2 (l0_2.length : Int) x36_2 = some r) ∧ Aside0 (kq ≤ kj2) ∧ Aside0 (w'.heap[gb163]? = some (.cells #[.int .i64 a0_0, .int .i64 a0_1, (.slice A0_2 l0_2.length c0_2)] 27 (0, 0))) ∧ Aside0 (Below w.heap.size w w'))
            case atStart => exact ⟨(0), (by first | rfl | (simp; done) | (simp [*]; done)), H', ⟨Nat.le_refl _⟩, ⟨by (with_reducible repeat (first | refine blk_drewN ?_ _ | refine blk_drew ?_ | refine blk_alloc ?_ _)); exact BK163.out⟩, ⟨by repeat (first | (with_reducible first | exact HB.out | apply below_alloc | apply pw_below_drewN | apply below_drew1 | refine below_set ?_ GE163.out) | exact HB.out)⟩⟩
            case round =>
              clear H'
              try clear c1
              try clear p1
              try clear q1
              try clear hx1
              try clear p2
              try clear c5
              try clear c5b0
              try clear c8
              try clear c10
              try clear c10b0
              try clear c11
              try clear c11b0
              try clear hcz13_0
              try clear hcz13_1
              try clear hcz13_2
              try clear hcz15_0
              try clear hcz15_1
              try clear hcz15_2
              try clear hcz6_0
              try clear hcz6_1
              try clear hcz6_2
              try clear hcz7_0
              try clear hcz7_1
              try clear hcz7_2
              try clear hcz9_0
              try clear hcz9_1
              try clear hcz9_2
              try clear hfz13_0
              try clear hfz13_1
              try clear hfz13_2
              try clear hfz15_0
              try clear hfz15_1
              try clear hfz15_2
              try clear hfz6_0
              try clear hfz6_1
              try clear hfz6_2
              try clear hfz7_0
              try clear hfz7_1
              try clear hfz7_2
              try clear hfz9_0
              try clear hfz9_1
              try clear hfz9_2
              try clear hx164_0
              try clear p164
              try clear p2
              try clear q164
              obtain ⟨x36_2, rfl, HA, HK2, BK163, HB⟩ := hrel
              cases gk with
              | zero => exact absurd HA.out (by simp [oriellaw31_levels.l0])
              | succ k2 =>
                have H := HA.out
                clear HA
                simp only [oriellaw31_levels.l0] at H
                by_cases c16 : x36_2 < (l0_2.length : Int)
                · rw [if_pos c16] at H
                  have c16b0 : decide (x36_2 < (l0_2.length : Int)) = true := decide_eq_true c16
                  clear c16
                  by_cases c17 : 0 ≤ x36_2
                  · rw [if_pos c17] at H
                    have c17b0 : decide (0 ≤ x36_2) = true := decide_eq_true c17
                    clear c17
                    by_cases c18 : x36_2 < (l0_2.length : Int)
                    · rw [if_pos c18] at H
                      have c18b0 : decide (x36_2 < (l0_2.length : Int)) = true := decide_eq_true c18
                      clear c18
                      by_cases c19 : ((rd_T27 l0_2 x36_2).f0) ≥ 0
                      · rw [if_pos c19] at H
                        have c19b0 : decide (0 ≤ ((rd_T27 l0_2 x36_2).f0)) = true := decide_eq_true c19
                        clear c19
                        by_cases c20 : 0 ≤ ((rd_T27 l0_2 x36_2).f0)
                        · rw [if_pos c20] at H
                          have c20b0 : decide (0 ≤ ((rd_T27 l0_2 x36_2).f0)) = true := decide_eq_true c20
                          clear c20
                          by_cases c21 : ((rd_T27 l0_2 x36_2).f0) < (l1.length : Int)
                          · rw [if_pos c21] at H
                            have c21b0 : decide (((rd_T27 l0_2 x36_2).f0) < (l1.length : Int)) = true := decide_eq_true c21
                            clear c21
                            replace H := Option.bind_eq_some_iff.mp H
                            obtain ⟨⟨t170, t171⟩, A220, H⟩ := H
                            replace H : (if t170 < t165 then (oriellaw31_levels.j2 k2 l1 t165 t166 l0_2 (l0_2.length : Int) x36_2 true ((rd_T27 l0_2 x36_2).f0) ((rd_T27 l0_2 x36_2).f1) ((rd_T27 l0_2 x36_2).f2)) else (if t170 = t165 then (oriellaw31_levels.j2 k2 l1 t165 t166 l0_2 (l0_2.length : Int) x36_2 ((x36_2 == 1) != t166) ((rd_T27 l0_2 x36_2).f0) ((rd_T27 l0_2 x36_2).f1) ((rd_T27 l0_2 x36_2).f2)) else (oriellaw31_levels.j2 k2 l1 t165 t166 l0_2 (l0_2.length : Int) x36_2 false ((rd_T27 l0_2 x36_2).f0) ((rd_T27 l0_2 x36_2).f1) ((rd_T27 l0_2 x36_2).f2)))) = some r := H
                            have A22 := Aside0.mk A220
                            clear A220
                            have HC23 := Aside0.mk H
                            clear H
                            have p167 : 0 ≤ (x36_2 : Int) := of_decide_eq_true (by first | (with_reducible assumption) | assumption)
                            have q167 : x36_2 < (l0_2.length : Int) := of_decide_eq_true (by first | (with_reducible assumption) | assumption)
                            obtain ⟨ad167, A167_2, c167_2, e167, hx167_0, hx167_1, hx167_2, hl167_2, hi167_2⟩ := at_T27 HR0_2.out x36_2 p167 q167
                            cases e167
                            replace hx167_0 := (HB.out.cell (World.block_lt_of_cell? w _ hx167_0)).trans hx167_0
                            replace hx167_1 := (HB.out.cell (World.block_lt_of_cell? w _ hx167_1)).trans hx167_1
                            replace hx167_2 := (HB.out.cell (World.block_lt_of_cell? w _ hx167_2)).trans hx167_2
                            have HR167_2 := Aside0.mk hi167_2
                            have HC167_2 := Aside0.mk hl167_2
                            clear hi167_2 hl167_2
                            replace p167 := eq_true p167
                            replace q167 := eq_true q167
                            go_upto_region 9 with (first | ((with_reducible refine gate_dst (N := 8) rfl ?_); (try (refine gate_guard (by rfl) ?_; dsimp only)); refine box_event ?hg (N := 8) ?hd (cs := #[.int .i64 0, .int .i64 0, .slice none 0 0]) (t := 27) ?hr ?_; (case hd => rfl); (case hg => rfl); (case hr => first | (go_simp; done) | (go_simp; rfl)); intro gb168 hg w24 hbox hb; have n0_ := Aside0.mk (blk_below (g := gb163) (o := .cells #[.int .i64 a0_0, .int .i64 a0_1, .slice (some ad167) l0_2.length c0_2] 27 (0, 0)) (by (with_reducible repeat (first | refine blk_drewN ?_ _ | refine blk_drew ?_ | refine blk_alloc ?_ _)); exact BK163.out) hb); have n1_ := Aside0.mk (below_step (by repeat (first | (with_reducible first | exact HB.out | apply below_alloc | apply pw_below_drewN | apply below_drew1 | refine below_set ?_ GE163.out) | exact HB.out)) hb); have n2_ := Aside0.mk (hbox); have n3_ := Aside0.mk ((by rw [hg]; exact (below_size (by repeat (first | (with_reducible first | exact HB.out | apply below_alloc | apply pw_below_drewN | apply below_drew1 | refine below_set ?_ GE163.out) | exact HB.out))) : w.heap.size ≤ gb168)); have n4_ := Aside0.mk ((by rw [hg]; exact (below_size (by repeat (first | (with_reducible first | exact HB.out | apply below_alloc | apply pw_below_drewN | apply below_drew1 | refine below_set ?_ GE163.out) | exact HB.out))) : w.heap.size ≤ gb168)); have n5_ := Aside0.mk ((by rw [hg]; exact Nat.ne_of_lt (blk_lt (g := gb163) (o := .cells #[.int .i64 a0_0, .int .i64 a0_1, .slice (some ad167) l0_2.length c0_2] 27 (0, 0)) (by (with_reducible repeat (first | refine blk_drewN ?_ _ | refine blk_drew ?_ | refine blk_alloc ?_ _)); exact BK163.out)) : gb163 ≠ gb168)); have n6_ := Aside0.mk ((by rw [hg]; exact Nat.ne_of_gt (blk_lt (g := gb163) (o := .cells #[.int .i64 a0_0, .int .i64 a0_1, .slice (some ad167) l0_2.length c0_2] 27 (0, 0)) (by (with_reducible repeat (first | refine blk_drewN ?_ _ | refine blk_drew ?_ | refine blk_alloc ?_ _)); exact BK163.out)) : gb168 ≠ gb163)); clear BK163; clear HB; have BK163 := n0_; have HB := n1_; have BK168 := n2_; have GW168 := n3_; have GE168 := n4_; have NB163_168 := n5_; have NB168_163 := n6_; clear n0_ n1_ n2_ n3_ n4_ n5_ n6_; clear hb hbox hg; have hnb25 := NB168_163.out; have hnc25 := NB163_168.out; have hcz26_0 : w24.cell? ⟨gb168, 0, none⟩ = some (.int .i64 0) := (blk_cell BK168.out 0).trans rfl; have hcz26_1 : w24.cell? ⟨gb168, 1, none⟩ = some (.int .i64 0) := (blk_cell BK168.out 1).trans rfl; have hcz26_2 : w24.cell? ⟨gb168, 2, none⟩ = some (.slice none 0 0) := (blk_cell BK168.out 2).trans rfl; have hfz26_0 := blk_frozen BK168.out 0; have hfz26_1 := blk_frozen BK168.out 1; have hfz26_2 := blk_frozen BK168.out 2; have p169 : 0 ≤ (((rd_T27 l0_2 x36_2).f0) : Int) := of_decide_eq_true (by first | (with_reducible assumption) | assumption); have q169 : ((rd_T27 l0_2 x36_2).f0) < (l1.length : Int) := of_decide_eq_true (by first | (with_reducible assumption) | assumption); obtain ⟨ad169, e169, hx169_0⟩ := Kd.at_string HR1.out ((rd_T27 l0_2 x36_2).f0) p169 q169; obtain rfl : ad164 = ad169 := (by injection e169); have hn169_0 : ad164.block ≠ gb168 := Nat.ne_of_lt (Nat.lt_of_lt_of_le (by have := World.block_lt_of_cell? _ _ hx169_0; first | rwa [add_block] at this | exact this) GW168.out); have hn169_1 : ad164.block ≠ gb168 := Nat.ne_of_lt (Nat.lt_of_lt_of_le (by have := World.block_lt_of_cell? _ _ hx169_0; first | rwa [add_block] at this | exact this) GW168.out); have hn169_2 : ad164.block ≠ gb168 := Nat.ne_of_lt (Nat.lt_of_lt_of_le (by have := World.block_lt_of_cell? _ _ hx169_0; first | rwa [add_block] at this | exact this) GW168.out); replace hx169_0 := (HB.out.cell (World.block_lt_of_cell? w _ hx169_0)).trans hx169_0; replace hx169_0 := (cell_far (p := ⟨gb168, 0, none⟩) (by first | (rw [add_block]; exact hn169_0) | (show (Addr.add _ _).block ≠ _; rw [add_block]; exact hn169_0) | exact hn169_0) (.int .i64 ((rd_T27 l0_2 x36_2).f0))).trans hx169_0; replace hx169_0 := (cell_far (p := ⟨gb168, 1, none⟩) (by first | (rw [add_block]; exact hn169_1) | (show (Addr.add _ _).block ≠ _; rw [add_block]; exact hn169_1) | exact hn169_1) (.int .i64 ((rd_T27 l0_2 x36_2).f1))).trans hx169_0; replace hx169_0 := (cell_far (p := ⟨gb168, 2, none⟩) (by first | (rw [add_block]; exact hn169_2) | (show (Addr.add _ _).block ≠ _; rw [add_block]; exact hn169_2) | exact hn169_2) (.slice A167_2 ((rd_T27 l0_2 x36_2).f2).length c167_2)).trans hx169_0; clear hn169_0; clear hn169_1; clear hn169_2; replace p169 := eq_true p169; replace q169 := eq_true q169) | ((with_reducible refine gate_callee (f := 18) rfl ?_); refine goesL_ (some 50) rfl rfl Try.func18 (by kernel_rfl) rfl #[.string (rdOf ByteArray.empty l1 ((rd_T27 l0_2 x36_2).f0))] rfl (by (try simp only [List.map_toArray, List.map_cons, List.map_nil]); first | done | rfl | (simp only [List.length_drop, List.length_take]; rfl)) ?_; (with_reducible refine (name_Level.calls k2 (rdOf ByteArray.empty l1 ((rd_T27 l0_2 x36_2).f0)) t170 t171 _ A22.out).mono ?_); rintro e w27 ⟨rfl, hb⟩; refine ⟨_, rfl, ?_⟩; have n0_ := Aside0.mk (blk_below (g := gb163) (o := .cells #[.int .i64 a0_0, .int .i64 a0_1, .slice (some ad167) l0_2.length c0_2] 27 (0, 0)) (by (with_reducible repeat (first | refine blk_drewN ?_ _ | refine blk_drew ?_ | refine blk_alloc ?_ _)); refine blk_far ?_ NB163_168.out _; (with_reducible repeat (first | refine blk_drewN ?_ _ | refine blk_drew ?_ | refine blk_alloc ?_ _)); refine blk_far ?_ NB163_168.out _; (with_reducible repeat (first | refine blk_drewN ?_ _ | refine blk_drew ?_ | refine blk_alloc ?_ _)); refine blk_far ?_ NB163_168.out _; (with_reducible repeat (first | refine blk_drewN ?_ _ | refine blk_drew ?_ | refine blk_alloc ?_ _)); exact BK163.out) hb); have n1_ := Aside0.mk (blk_below (g := gb168) (o := .cells #[.int .i64 ((rd_T27 l0_2 x36_2).f0), .int .i64 ((rd_T27 l0_2 x36_2).f1), .slice A167_2 ((rd_T27 l0_2 x36_2).f2).length c167_2] 27 (0, 0)) (by (with_reducible repeat (first | refine blk_drewN ?_ _ | refine blk_drew ?_ | refine blk_alloc ?_ _)); refine blk_put (cs := #[.int .i64 ((rd_T27 l0_2 x36_2).f0), .int .i64 ((rd_T27 l0_2 x36_2).f1), .slice none 0 0]) ?_ 2 _ rfl; (with_reducible repeat (first | refine blk_drewN ?_ _ | refine blk_drew ?_ | refine blk_alloc ?_ _)); refine blk_put (cs := #[.int .i64 ((rd_T27 l0_2 x36_2).f0), .int .i64 0, .slice none 0 0]) ?_ 1 _ rfl; (with_reducible repeat (first | refine blk_drewN ?_ _ | refine blk_drew ?_ | refine blk_alloc ?_ _)); refine blk_put (cs := #[.int .i64 0, .int .i64 0, .slice none 0 0]) ?_ 0 _ rfl; (with_reducible repeat (first | refine blk_drewN ?_ _ | refine blk_drew ?_ | refine blk_alloc ?_ _)); exact BK168.out) hb); have n2_ := Aside0.mk (below_step (by repeat (first | (with_reducible first | exact HB.out | apply below_alloc | apply pw_below_drewN | apply below_drew1 | refine below_set ?_ GE163.out | refine below_set ?_ GE168.out) | exact HB.out)) hb); clear BK163; clear BK168; clear HB; have BK163 := n0_; have BK168 := n1_; have HB := n2_; clear n0_ n1_ n2_; (try clear hb); (try clear hb2); (try clear hk); (try clear hi)))
                            (try simp only [Act.put, List.setIfInBounds_toArray, List.set_cons_zero, List.set_cons_succ])
                            go_cut [66] (fun v66 wc => ∃ (kq : Nat) (x66_22 : Bool), v66 = .bool x66_22 ∧ Aside0 (oriellaw31_levels.j2 kq l1 t165 t166 l0_2 (l0_2.length : Int) x36_2 x66_22 ((rd_T27 l0_2 x36_2).f0) ((rd_T27 l0_2 x36_2).f1) ((rd_T27 l0_2 x36_2).f2) = some r) ∧ Aside0 (kq ≤ k2) ∧ Aside0 (wc.heap[gb163]? = some (.cells #[.int .i64 a0_0, .int .i64 a0_1, (.slice (some ad167) l0_2.length c0_2)] 27 (0, 0))) ∧ Aside0 (wc.heap[gb168]? = some (.cells #[.int .i64 ((rd_T27 l0_2 x36_2).f0), .int .i64 ((rd_T27 l0_2 x36_2).f1), (.slice A167_2 ((rd_T27 l0_2 x36_2).f2).length c167_2)] 27 (0, 0))) ∧ Aside0 (Below w.heap.size w wc))
                            case first =>
                              have H := HC23.out
                              clear HC23
                              by_cases c28 : t170 < t165
                              · rw [if_pos c28] at H
                                have c28b0 : decide (t170 < t165) = true := decide_eq_true c28
                                clear c28
                                (first | rw [c28b0] | (simp only [i64_w, i32_w]; rw [c28b0]) | skip)
                                have H' := Aside0.mk H
                                clear H
                                go_wp2
                                go_meet
                                case rel => exact ⟨_, (true), (by first | rfl | (simp; done) | (simp [*]; done)), H', ⟨by have := HJ2.out; have := HK2.out; first | omega | exact Nat.le_refl _⟩, ⟨by (with_reducible repeat (first | refine blk_drewN ?_ _ | refine blk_drew ?_ | refine blk_alloc ?_ _)); exact BK163.out⟩, ⟨by (with_reducible repeat (first | refine blk_drewN ?_ _ | refine blk_drew ?_ | refine blk_alloc ?_ _)); exact BK168.out⟩, ⟨by repeat (first | (with_reducible first | exact HB.out | apply below_alloc | apply pw_below_drewN | apply below_drew1 | refine below_set ?_ GE163.out | refine below_set ?_ GE168.out) | exact HB.out)⟩⟩
                              · rw [if_neg c28] at H
                                have c28b0 : decide (t170 < t165) = false := decide_eq_false c28
                                clear c28
                                (first | rw [c28b0] | (simp only [i64_w, i32_w]; rw [c28b0]) | skip)
                                by_cases c29 : t170 = t165
                                · rw [if_pos c29] at H
                                  have c29b0 : (t170 == t165) = true := beq_iff_eq.mpr c29
                                  have c29b1 : (t170 != t165) = false := bne_eq_false_iff_eq.mpr c29
                                  clear c29
                                  have H' := Aside0.mk H
                                  clear H
                                  go_wp2
                                  go_meet
                                  case rel => exact ⟨_, (((x36_2 == 1) != t166)), (by first | rfl | (simp; done) | (simp [*]; done)), H', ⟨by have := HJ2.out; have := HK2.out; first | omega | exact Nat.le_refl _⟩, ⟨by (with_reducible repeat (first | refine blk_drewN ?_ _ | refine blk_drew ?_ | refine blk_alloc ?_ _)); exact BK163.out⟩, ⟨by (with_reducible repeat (first | refine blk_drewN ?_ _ | refine blk_drew ?_ | refine blk_alloc ?_ _)); exact BK168.out⟩, ⟨by repeat (first | (with_reducible first | exact HB.out | apply below_alloc | apply pw_below_drewN | apply below_drew1 | refine below_set ?_ GE163.out | refine below_set ?_ GE168.out) | exact HB.out)⟩⟩
                                · rw [if_neg c29] at H
                                  have c29b0 : (t170 == t165) = false := beq_eq_false_iff_ne.mpr c29
                                  have c29b1 : (t170 != t165) = true := bne_iff_ne.mpr c29
                                  have H' := Aside0.mk H
                                  clear H
                                  go_wp2
                                  go_meet
                                  case rel => exact ⟨_, (false), (by first | rfl | (simp; done) | (simp [*]; done)), H', ⟨by have := HJ2.out; have := HK2.out; first | omega | exact Nat.le_refl _⟩, ⟨by (with_reducible repeat (first | refine blk_drewN ?_ _ | refine blk_drew ?_ | refine blk_alloc ?_ _)); exact BK163.out⟩, ⟨by (with_reducible repeat (first | refine blk_drewN ?_ _ | refine blk_drew ?_ | refine blk_alloc ?_ _)); exact BK168.out⟩, ⟨by repeat (first | (with_reducible first | exact HB.out | apply below_alloc | apply pw_below_drewN | apply below_drew1 | refine below_set ?_ GE163.out | refine below_set ?_ GE168.out) | exact HB.out)⟩⟩
                            case rest =>
                              clear HC23
                              try clear c1
                              try clear p1
                              try clear q1
                              try clear hx1
                              try clear c2
                              try clear p2
                              try clear c5
                              try clear c5b0
                              try clear c8
                              try clear c10
                              try clear c10b0
                              try clear c11
                              try clear c11b0
                              try clear c16
                              try clear c16b0
                              try clear p16
                              try clear q16
                              try clear hx16
                              try clear c17
                              try clear c17b0
                              try clear c18
                              try clear c18b0
                              try clear c19
                              try clear c19b0
                              try clear c20
                              try clear c20b0
                              try clear c21
                              try clear c21b0
                              try clear c25
                              try clear c28
                              try clear c28b0
                              try clear c29
                              try clear c29b0
                              try clear c29b1
                              try clear hcz13_0
                              try clear hcz13_1
                              try clear hcz13_2
                              try clear hcz15_0
                              try clear hcz15_1
                              try clear hcz15_2
                              try clear hcz26_0
                              try clear hcz26_1
                              try clear hcz26_2
                              try clear hcz6_0
                              try clear hcz6_1
                              try clear hcz6_2
                              try clear hcz7_0
                              try clear hcz7_1
                              try clear hcz7_2
                              try clear hcz9_0
                              try clear hcz9_1
                              try clear hcz9_2
                              try clear hfz13_0
                              try clear hfz13_1
                              try clear hfz13_2
                              try clear hfz15_0
                              try clear hfz15_1
                              try clear hfz15_2
                              try clear hfz26_0
                              try clear hfz26_1
                              try clear hfz26_2
                              try clear hfz6_0
                              try clear hfz6_1
                              try clear hfz6_2
                              try clear hfz7_0
                              try clear hfz7_1
                              try clear hfz7_2
                              try clear hfz9_0
                              try clear hfz9_1
                              try clear hfz9_2
                              try clear hx164_0
                              try clear hx167_0
                              try clear hx167_1
                              try clear hx167_2
                              try clear hx169_0
                              try clear p1
                              try clear p164
                              try clear p167
                              try clear p169
                              try clear p2
                              try clear q1
                              try clear q164
                              try clear q167
                              try clear q169
                              obtain ⟨kq, x66_22, rfl, HA, HJ22, BK163, BK168, HB⟩ := hcut
                              cases kq with
                              | zero => exact absurd HA.out (by simp [oriellaw31_levels.j2])
                              | succ kj22 =>
                                have H := HA.out
                                clear HA
                                simp only [oriellaw31_levels.j2] at H
                                by_cases c30 : x66_22 = true
                                · subst c30
                                  have H1 : (some false) = some r := by rw [if_pos rfl] at H; exact H
                                  clear H
                                  have H := H1
                                  clear H1
                                  obtain rfl := Option.some.inj H
                                  go_wp2
                                  go_ret
                                  exact ⟨by first | rfl | (simp [errW_none, errW_some] <;> rfl) | (simp [*, errW_none, errW_some] <;> rfl), by repeat (first | (with_reducible first | exact HB.out | apply below_alloc | apply pw_below_drewN | apply below_drew1 | refine below_set ?_ GE163.out | refine below_set ?_ GE168.out) | exact HB.out)⟩
                                · replace c30 := Bool.eq_false_iff.mpr c30
                                  subst c30
                                  have H1 : ((oriellaw31_levels.f kj22 ((rd_T27 l0_2 x36_2).f0) ((rd_T27 l0_2 x36_2).f1) ((rd_T27 l0_2 x36_2).f2) l1).bind fun t172 => (if t172 = true then (oriellaw31_levels.l0 kj22 l1 t165 t166 l0_2 (l0_2.length : Int) (wrap64 (x36_2 + 1))) else (some false))) = some r := by rw [if_neg (show ¬ (false = true) by decide)] at H; exact H
                                  clear H
                                  have H := H1
                                  clear H1
                                  replace H := Option.bind_eq_some_iff.mp H
                                  obtain ⟨t172, A310, H⟩ := H
                                  replace H : (if t172 = true then (oriellaw31_levels.l0 kj22 l1 t165 t166 l0_2 (l0_2.length : Int) (wrap64 (x36_2 + 1))) else (some false)) = some r := H
                                  have A31 := Aside0.mk A310
                                  clear A310
                                  by_cases c32 : t172 = true
                                  · subst c32
                                    have H1 : (oriellaw31_levels.l0 kj22 l1 t165 t166 l0_2 (l0_2.length : Int) (wrap64 (x36_2 + 1))) = some r := by rw [if_pos rfl] at H; exact H
                                    clear H
                                    have H := H1
                                    clear H1
                                    have H' := Aside0.mk H
                                    clear H
                                    have hnb33 := NB168_163.out
                                    have hnc33 := NB163_168.out
                                    have hcz34_0 : wc.cell? ⟨gb168, 0, none⟩ = some (.int .i64 ((rd_T27 l0_2 x36_2).f0)) := (blk_cell BK168.out 0).trans rfl
                                    have hcz34_1 : wc.cell? ⟨gb168, 1, none⟩ = some (.int .i64 ((rd_T27 l0_2 x36_2).f1)) := (blk_cell BK168.out 1).trans rfl
                                    have hcz34_2 : wc.cell? ⟨gb168, 2, none⟩ = some (.slice A167_2 ((rd_T27 l0_2 x36_2).f2).length c167_2) := (blk_cell BK168.out 2).trans rfl
                                    have hfz34_0 := blk_frozen BK168.out 0
                                    have hfz34_1 := blk_frozen BK168.out 1
                                    have hfz34_2 := blk_frozen BK168.out 2
                                    go_wp2_with (first | ((with_reducible refine gate_callee (f := 16) rfl ?_); refine goesL_ (some 69) rfl rfl Try.func16 (by kernel_rfl) rfl #[.agg #[.int .i64 ((rd_T27 l0_2 x36_2).f0), .int .i64 ((rd_T27 l0_2 x36_2).f1), .slice A167_2 ((rd_T27 l0_2 x36_2).f2).length c167_2], .slice (some ad164) l1.length c1] rfl (by (try simp only [List.map_toArray, List.map_cons, List.map_nil]); first | done | rfl | (simp only [List.length_drop, List.length_take]; rfl)) ?_; (with_reducible refine (ih kj22 (by have := HJ2.out; have := HK2.out; have := HJ22.out; omega) ((rd_T27 l0_2 x36_2).f0) ((rd_T27 l0_2 x36_2).f1) _ _ ((rd_T27 l0_2 x36_2).f2) _ _ l1 true _ ?side1 ?side2 ?side3 ?side4 A31.out).mono ?_); (case side1 => repeat (first | exact (Kd.C_below HR167_2.out HB.out) | (with_reducible refine Kd.C_alloc ?_ _) | (with_reducible refine Kd.C_drewN ?_ _) | (with_reducible refine Kd.C_drew ?_))); (case side2 => exact HC167_2.out); (case side3 => repeat (first | exact (Kd.C_below HR1.out HB.out) | (with_reducible refine Kd.C_alloc ?_ _) | (with_reducible refine Kd.C_drewN ?_ _) | (with_reducible refine Kd.C_drew ?_))); (case side4 => exact HC1.out); rintro e w35 ⟨rfl, hb⟩; refine ⟨_, rfl, ?_⟩; have n0_ := Aside0.mk (blk_below (g := gb163) (o := .cells #[.int .i64 a0_0, .int .i64 a0_1, .slice (some ad167) l0_2.length c0_2] 27 (0, 0)) (by (with_reducible repeat (first | refine blk_drewN ?_ _ | refine blk_drew ?_ | refine blk_alloc ?_ _)); exact BK163.out) hb); have n1_ := Aside0.mk (blk_below (g := gb168) (o := .cells #[.int .i64 ((rd_T27 l0_2 x36_2).f0), .int .i64 ((rd_T27 l0_2 x36_2).f1), .slice A167_2 ((rd_T27 l0_2 x36_2).f2).length c167_2] 27 (0, 0)) (by (with_reducible repeat (first | refine blk_drewN ?_ _ | refine blk_drew ?_ | refine blk_alloc ?_ _)); exact BK168.out) hb); have n2_ := Aside0.mk (below_step (by repeat (first | (with_reducible first | exact HB.out | apply below_alloc | apply pw_below_drewN | apply below_drew1 | refine below_set ?_ GE163.out | refine below_set ?_ GE168.out) | exact HB.out)) hb); clear BK163; clear BK168; clear HB; have BK163 := n0_; have BK168 := n1_; have HB := n2_; clear n0_ n1_ n2_; (try clear hb); (try clear hb2); (try clear hk); (try clear hi)))
                                    go_roundg kj22
                                    case measure => have := HJ2.out; have := HK2.out; have := HJ22.out; omega
                                    case rel => exact ⟨(wrap64 (x36_2 + 1)), (by first | rfl | (simp; done) | (simp [*]; done)), H', ⟨by have := HJ2.out; have := HK2.out; have := HJ22.out; omega⟩, ⟨by (with_reducible repeat (first | refine blk_drewN ?_ _ | refine blk_drew ?_ | refine blk_alloc ?_ _)); exact BK163.out⟩, ⟨by repeat (first | (with_reducible first | exact HB.out | apply below_alloc | apply pw_below_drewN | apply below_drew1 | refine below_set ?_ GE163.out | refine below_set ?_ GE168.out) | exact HB.out)⟩⟩
                                  · replace c32 := Bool.eq_false_iff.mpr c32
                                    subst c32
                                    have H1 : (some false) = some r := by rw [if_neg (show ¬ (false = true) by decide)] at H; exact H
                                    clear H
                                    have H := H1
                                    clear H1
                                    obtain rfl := Option.some.inj H
                                    have hnb36 := NB168_163.out
                                    have hnc36 := NB163_168.out
                                    have hcz37_0 : wc.cell? ⟨gb168, 0, none⟩ = some (.int .i64 ((rd_T27 l0_2 x36_2).f0)) := (blk_cell BK168.out 0).trans rfl
                                    have hcz37_1 : wc.cell? ⟨gb168, 1, none⟩ = some (.int .i64 ((rd_T27 l0_2 x36_2).f1)) := (blk_cell BK168.out 1).trans rfl
                                    have hcz37_2 : wc.cell? ⟨gb168, 2, none⟩ = some (.slice A167_2 ((rd_T27 l0_2 x36_2).f2).length c167_2) := (blk_cell BK168.out 2).trans rfl
                                    have hfz37_0 := blk_frozen BK168.out 0
                                    have hfz37_1 := blk_frozen BK168.out 1
                                    have hfz37_2 := blk_frozen BK168.out 2
                                    go_wp2_with (first | ((with_reducible refine gate_callee (f := 16) rfl ?_); refine goesL_ (some 69) rfl rfl Try.func16 (by kernel_rfl) rfl #[.agg #[.int .i64 ((rd_T27 l0_2 x36_2).f0), .int .i64 ((rd_T27 l0_2 x36_2).f1), .slice A167_2 ((rd_T27 l0_2 x36_2).f2).length c167_2], .slice (some ad164) l1.length c1] rfl (by (try simp only [List.map_toArray, List.map_cons, List.map_nil]); first | done | rfl | (simp only [List.length_drop, List.length_take]; rfl)) ?_; (with_reducible refine (ih kj22 (by have := HJ2.out; have := HK2.out; have := HJ22.out; omega) ((rd_T27 l0_2 x36_2).f0) ((rd_T27 l0_2 x36_2).f1) _ _ ((rd_T27 l0_2 x36_2).f2) _ _ l1 false _ ?side1 ?side2 ?side3 ?side4 A31.out).mono ?_); (case side1 => repeat (first | exact (Kd.C_below HR167_2.out HB.out) | (with_reducible refine Kd.C_alloc ?_ _) | (with_reducible refine Kd.C_drewN ?_ _) | (with_reducible refine Kd.C_drew ?_))); (case side2 => exact HC167_2.out); (case side3 => repeat (first | exact (Kd.C_below HR1.out HB.out) | (with_reducible refine Kd.C_alloc ?_ _) | (with_reducible refine Kd.C_drewN ?_ _) | (with_reducible refine Kd.C_drew ?_))); (case side4 => exact HC1.out); rintro e w38 ⟨rfl, hb⟩; refine ⟨_, rfl, ?_⟩; have n0_ := Aside0.mk (blk_below (g := gb163) (o := .cells #[.int .i64 a0_0, .int .i64 a0_1, .slice (some ad167) l0_2.length c0_2] 27 (0, 0)) (by (with_reducible repeat (first | refine blk_drewN ?_ _ | refine blk_drew ?_ | refine blk_alloc ?_ _)); exact BK163.out) hb); have n1_ := Aside0.mk (blk_below (g := gb168) (o := .cells #[.int .i64 ((rd_T27 l0_2 x36_2).f0), .int .i64 ((rd_T27 l0_2 x36_2).f1), .slice A167_2 ((rd_T27 l0_2 x36_2).f2).length c167_2] 27 (0, 0)) (by (with_reducible repeat (first | refine blk_drewN ?_ _ | refine blk_drew ?_ | refine blk_alloc ?_ _)); exact BK168.out) hb); have n2_ := Aside0.mk (below_step (by repeat (first | (with_reducible first | exact HB.out | apply below_alloc | apply pw_below_drewN | apply below_drew1 | refine below_set ?_ GE163.out | refine below_set ?_ GE168.out) | exact HB.out)) hb); clear BK163; clear BK168; clear HB; have BK163 := n0_; have BK168 := n1_; have HB := n2_; clear n0_ n1_ n2_; (try clear hb); (try clear hb2); (try clear hk); (try clear hi)))
                                    go_ret
                                    exact ⟨by first | rfl | (simp [errW_none, errW_some] <;> rfl) | (simp [*, errW_none, errW_some] <;> rfl), by repeat (first | (with_reducible first | exact HB.out | apply below_alloc | apply pw_below_drewN | apply below_drew1 | refine below_set ?_ GE163.out | refine below_set ?_ GE168.out) | exact HB.out)⟩
                          · rw [if_neg c21] at H
                            exact absurd H (by simp)
                        · rw [if_neg c20] at H
                          exact absurd H (by simp)
                      · rw [if_neg c19] at H
                        have c19b0 : decide (0 ≤ ((rd_T27 l0_2 x36_2).f0)) = false := decide_eq_false c19
                        clear c19
                        replace H := Option.bind_eq_some_iff.mp H
                        obtain ⟨t173, A390, H⟩ := H
                        replace H : (if t173 = true then (oriellaw31_levels.l0 k2 l1 t165 t166 l0_2 (l0_2.length : Int) (wrap64 (x36_2 + 1))) else (some false)) = some r := H
                        have A39 := Aside0.mk A390
                        clear A390
                        by_cases c40 : t173 = true
                        · subst c40
                          have H1 : (oriellaw31_levels.l0 k2 l1 t165 t166 l0_2 (l0_2.length : Int) (wrap64 (x36_2 + 1))) = some r := by rw [if_pos rfl] at H; exact H
                          clear H
                          have H := H1
                          clear H1
                          have H' := Aside0.mk H
                          clear H
                          have p167 : 0 ≤ (x36_2 : Int) := of_decide_eq_true (by first | (with_reducible assumption) | assumption)
                          have q167 : x36_2 < (l0_2.length : Int) := of_decide_eq_true (by first | (with_reducible assumption) | assumption)
                          obtain ⟨ad167, A167_2, c167_2, e167, hx167_0, hx167_1, hx167_2, hl167_2, hi167_2⟩ := at_T27 HR0_2.out x36_2 p167 q167
                          cases e167
                          replace hx167_0 := (HB.out.cell (World.block_lt_of_cell? w _ hx167_0)).trans hx167_0
                          replace hx167_1 := (HB.out.cell (World.block_lt_of_cell? w _ hx167_1)).trans hx167_1
                          replace hx167_2 := (HB.out.cell (World.block_lt_of_cell? w _ hx167_2)).trans hx167_2
                          have HR167_2 := Aside0.mk hi167_2
                          have HC167_2 := Aside0.mk hl167_2
                          clear hi167_2 hl167_2
                          replace p167 := eq_true p167
                          replace q167 := eq_true q167
                          go_wp2_with (first | ((with_reducible refine gate_dst (N := 8) rfl ?_); (try (refine gate_guard (by rfl) ?_; dsimp only)); refine box_event ?hg (N := 8) ?hd (cs := #[.int .i64 0, .int .i64 0, .slice none 0 0]) (t := 27) ?hr ?_; (case hd => rfl); (case hg => rfl); (case hr => first | (go_simp; done) | (go_simp; rfl)); intro gb168 hg w41 hbox hb; have n0_ := Aside0.mk (blk_below (g := gb163) (o := .cells #[.int .i64 a0_0, .int .i64 a0_1, .slice (some ad167) l0_2.length c0_2] 27 (0, 0)) (by (with_reducible repeat (first | refine blk_drewN ?_ _ | refine blk_drew ?_ | refine blk_alloc ?_ _)); exact BK163.out) hb); have n1_ := Aside0.mk (below_step (by repeat (first | (with_reducible first | exact HB.out | apply below_alloc | apply pw_below_drewN | apply below_drew1 | refine below_set ?_ GE163.out) | exact HB.out)) hb); have n2_ := Aside0.mk (hbox); have n3_ := Aside0.mk ((by rw [hg]; exact (below_size (by repeat (first | (with_reducible first | exact HB.out | apply below_alloc | apply pw_below_drewN | apply below_drew1 | refine below_set ?_ GE163.out) | exact HB.out))) : w.heap.size ≤ gb168)); have n4_ := Aside0.mk ((by rw [hg]; exact (below_size (by repeat (first | (with_reducible first | exact HB.out | apply below_alloc | apply pw_below_drewN | apply below_drew1 | refine below_set ?_ GE163.out) | exact HB.out))) : w.heap.size ≤ gb168)); have n5_ := Aside0.mk ((by rw [hg]; exact Nat.ne_of_lt (blk_lt (g := gb163) (o := .cells #[.int .i64 a0_0, .int .i64 a0_1, .slice (some ad167) l0_2.length c0_2] 27 (0, 0)) (by (with_reducible repeat (first | refine blk_drewN ?_ _ | refine blk_drew ?_ | refine blk_alloc ?_ _)); exact BK163.out)) : gb163 ≠ gb168)); have n6_ := Aside0.mk ((by rw [hg]; exact Nat.ne_of_gt (blk_lt (g := gb163) (o := .cells #[.int .i64 a0_0, .int .i64 a0_1, .slice (some ad167) l0_2.length c0_2] 27 (0, 0)) (by (with_reducible repeat (first | refine blk_drewN ?_ _ | refine blk_drew ?_ | refine blk_alloc ?_ _)); exact BK163.out)) : gb168 ≠ gb163)); clear BK163; clear HB; have BK163 := n0_; have HB := n1_; have BK168 := n2_; have GW168 := n3_; have GE168 := n4_; have NB163_168 := n5_; have NB168_163 := n6_; clear n0_ n1_ n2_ n3_ n4_ n5_ n6_; clear hb hbox hg; have hnb42 := NB168_163.out; have hnc42 := NB163_168.out; have hcz43_0 : w41.cell? ⟨gb168, 0, none⟩ = some (.int .i64 0) := (blk_cell BK168.out 0).trans rfl; have hcz43_1 : w41.cell? ⟨gb168, 1, none⟩ = some (.int .i64 0) := (blk_cell BK168.out 1).trans rfl; have hcz43_2 : w41.cell? ⟨gb168, 2, none⟩ = some (.slice none 0 0) := (blk_cell BK168.out 2).trans rfl; have hfz43_0 := blk_frozen BK168.out 0; have hfz43_1 := blk_frozen BK168.out 1; have hfz43_2 := blk_frozen BK168.out 2) | ((with_reducible refine gate_callee (f := 16) rfl ?_); refine goesL_ (some 69) rfl rfl Try.func16 (by kernel_rfl) rfl #[.agg #[.int .i64 ((rd_T27 l0_2 x36_2).f0), .int .i64 ((rd_T27 l0_2 x36_2).f1), .slice A167_2 ((rd_T27 l0_2 x36_2).f2).length c167_2], .slice (some ad164) l1.length c1] rfl (by (try simp only [List.map_toArray, List.map_cons, List.map_nil]); first | done | rfl | (simp only [List.length_drop, List.length_take]; rfl)) ?_; (with_reducible refine (ih k2 (by have := HJ2.out; have := HK2.out; omega) ((rd_T27 l0_2 x36_2).f0) ((rd_T27 l0_2 x36_2).f1) _ _ ((rd_T27 l0_2 x36_2).f2) _ _ l1 true _ ?side1 ?side2 ?side3 ?side4 A39.out).mono ?_); (case side1 => exact Kd.C_below HR167_2.out (by repeat (first | (with_reducible first | exact HB.out | apply below_alloc | apply pw_below_drewN | apply below_drew1 | refine below_set ?_ GE163.out | refine below_set ?_ GE168.out) | exact HB.out))); (case side2 => exact HC167_2.out); (case side3 => exact Kd.C_below HR1.out (by repeat (first | (with_reducible first | exact HB.out | apply below_alloc | apply pw_below_drewN | apply below_drew1 | refine below_set ?_ GE163.out | refine below_set ?_ GE168.out) | exact HB.out))); (case side4 => exact HC1.out); rintro e w44 ⟨rfl, hb⟩; refine ⟨_, rfl, ?_⟩; have n0_ := Aside0.mk (blk_below (g := gb163) (o := .cells #[.int .i64 a0_0, .int .i64 a0_1, .slice (some ad167) l0_2.length c0_2] 27 (0, 0)) (by (with_reducible repeat (first | refine blk_drewN ?_ _ | refine blk_drew ?_ | refine blk_alloc ?_ _)); refine blk_far ?_ NB163_168.out _; (with_reducible repeat (first | refine blk_drewN ?_ _ | refine blk_drew ?_ | refine blk_alloc ?_ _)); refine blk_far ?_ NB163_168.out _; (with_reducible repeat (first | refine blk_drewN ?_ _ | refine blk_drew ?_ | refine blk_alloc ?_ _)); refine blk_far ?_ NB163_168.out _; (with_reducible repeat (first | refine blk_drewN ?_ _ | refine blk_drew ?_ | refine blk_alloc ?_ _)); exact BK163.out) hb); have n1_ := Aside0.mk (blk_below (g := gb168) (o := .cells #[.int .i64 ((rd_T27 l0_2 x36_2).f0), .int .i64 ((rd_T27 l0_2 x36_2).f1), .slice A167_2 ((rd_T27 l0_2 x36_2).f2).length c167_2] 27 (0, 0)) (by (with_reducible repeat (first | refine blk_drewN ?_ _ | refine blk_drew ?_ | refine blk_alloc ?_ _)); refine blk_put (cs := #[.int .i64 ((rd_T27 l0_2 x36_2).f0), .int .i64 ((rd_T27 l0_2 x36_2).f1), .slice none 0 0]) ?_ 2 _ rfl; (with_reducible repeat (first | refine blk_drewN ?_ _ | refine blk_drew ?_ | refine blk_alloc ?_ _)); refine blk_put (cs := #[.int .i64 ((rd_T27 l0_2 x36_2).f0), .int .i64 0, .slice none 0 0]) ?_ 1 _ rfl; (with_reducible repeat (first | refine blk_drewN ?_ _ | refine blk_drew ?_ | refine blk_alloc ?_ _)); refine blk_put (cs := #[.int .i64 0, .int .i64 0, .slice none 0 0]) ?_ 0 _ rfl; (with_reducible repeat (first | refine blk_drewN ?_ _ | refine blk_drew ?_ | refine blk_alloc ?_ _)); exact BK168.out) hb); have n2_ := Aside0.mk (below_step (by repeat (first | (with_reducible first | exact HB.out | apply below_alloc | apply pw_below_drewN | apply below_drew1 | refine below_set ?_ GE163.out | refine below_set ?_ GE168.out) | exact HB.out)) hb); clear BK163; clear BK168; clear HB; have BK163 := n0_; have BK168 := n1_; have HB := n2_; clear n0_ n1_ n2_; (try clear hb); (try clear hb2); (try clear hk); (try clear hi)))
                          go_roundg k2
                          case measure => have := HJ2.out; have := HK2.out; omega
                          case rel => exact ⟨(wrap64 (x36_2 + 1)), (by first | rfl | (simp; done) | (simp [*]; done)), H', ⟨by have := HJ2.out; have := HK2.out; omega⟩, ⟨by (with_reducible repeat (first | refine blk_drewN ?_ _ | refine blk_drew ?_ | refine blk_alloc ?_ _)); exact BK163.out⟩, ⟨by repeat (first | (with_reducible first | exact HB.out | apply below_alloc | apply pw_below_drewN | apply below_drew1 | refine below_set ?_ GE163.out | refine below_set ?_ GE168.out) | exact HB.out)⟩⟩
                        · replace c40 := Bool.eq_false_iff.mpr c40
                          subst c40
                          have H1 : (some false) = some r := by rw [if_neg (show ¬ (false = true) by decide)] at H; exact H
                          clear H
                          have H := H1
                          clear H1
                          obtain rfl := Option.some.inj H
                          have p167 : 0 ≤ (x36_2 : Int) := of_decide_eq_true (by first | (with_reducible assumption) | assumption)
                          have q167 : x36_2 < (l0_2.length : Int) := of_decide_eq_true (by first | (with_reducible assumption) | assumption)
                          obtain ⟨ad167, A167_2, c167_2, e167, hx167_0, hx167_1, hx167_2, hl167_2, hi167_2⟩ := at_T27 HR0_2.out x36_2 p167 q167
                          cases e167
                          replace hx167_0 := (HB.out.cell (World.block_lt_of_cell? w _ hx167_0)).trans hx167_0
                          replace hx167_1 := (HB.out.cell (World.block_lt_of_cell? w _ hx167_1)).trans hx167_1
                          replace hx167_2 := (HB.out.cell (World.block_lt_of_cell? w _ hx167_2)).trans hx167_2
                          have HR167_2 := Aside0.mk hi167_2
                          have HC167_2 := Aside0.mk hl167_2
                          clear hi167_2 hl167_2
                          replace p167 := eq_true p167
                          replace q167 := eq_true q167
                          go_wp2_with (first | ((with_reducible refine gate_dst (N := 8) rfl ?_); (try (refine gate_guard (by rfl) ?_; dsimp only)); refine box_event ?hg (N := 8) ?hd (cs := #[.int .i64 0, .int .i64 0, .slice none 0 0]) (t := 27) ?hr ?_; (case hd => rfl); (case hg => rfl); (case hr => first | (go_simp; done) | (go_simp; rfl)); intro gb168 hg w45 hbox hb; have n0_ := Aside0.mk (blk_below (g := gb163) (o := .cells #[.int .i64 a0_0, .int .i64 a0_1, .slice (some ad167) l0_2.length c0_2] 27 (0, 0)) (by (with_reducible repeat (first | refine blk_drewN ?_ _ | refine blk_drew ?_ | refine blk_alloc ?_ _)); exact BK163.out) hb); have n1_ := Aside0.mk (below_step (by repeat (first | (with_reducible first | exact HB.out | apply below_alloc | apply pw_below_drewN | apply below_drew1 | refine below_set ?_ GE163.out) | exact HB.out)) hb); have n2_ := Aside0.mk (hbox); have n3_ := Aside0.mk ((by rw [hg]; exact (below_size (by repeat (first | (with_reducible first | exact HB.out | apply below_alloc | apply pw_below_drewN | apply below_drew1 | refine below_set ?_ GE163.out) | exact HB.out))) : w.heap.size ≤ gb168)); have n4_ := Aside0.mk ((by rw [hg]; exact (below_size (by repeat (first | (with_reducible first | exact HB.out | apply below_alloc | apply pw_below_drewN | apply below_drew1 | refine below_set ?_ GE163.out) | exact HB.out))) : w.heap.size ≤ gb168)); have n5_ := Aside0.mk ((by rw [hg]; exact Nat.ne_of_lt (blk_lt (g := gb163) (o := .cells #[.int .i64 a0_0, .int .i64 a0_1, .slice (some ad167) l0_2.length c0_2] 27 (0, 0)) (by (with_reducible repeat (first | refine blk_drewN ?_ _ | refine blk_drew ?_ | refine blk_alloc ?_ _)); exact BK163.out)) : gb163 ≠ gb168)); have n6_ := Aside0.mk ((by rw [hg]; exact Nat.ne_of_gt (blk_lt (g := gb163) (o := .cells #[.int .i64 a0_0, .int .i64 a0_1, .slice (some ad167) l0_2.length c0_2] 27 (0, 0)) (by (with_reducible repeat (first | refine blk_drewN ?_ _ | refine blk_drew ?_ | refine blk_alloc ?_ _)); exact BK163.out)) : gb168 ≠ gb163)); clear BK163; clear HB; have BK163 := n0_; have HB := n1_; have BK168 := n2_; have GW168 := n3_; have GE168 := n4_; have NB163_168 := n5_; have NB168_163 := n6_; clear n0_ n1_ n2_ n3_ n4_ n5_ n6_; clear hb hbox hg; have hnb46 := NB168_163.out; have hnc46 := NB163_168.out; have hcz47_0 : w45.cell? ⟨gb168, 0, none⟩ = some (.int .i64 0) := (blk_cell BK168.out 0).trans rfl; have hcz47_1 : w45.cell? ⟨gb168, 1, none⟩ = some (.int .i64 0) := (blk_cell BK168.out 1).trans rfl; have hcz47_2 : w45.cell? ⟨gb168, 2, none⟩ = some (.slice none 0 0) := (blk_cell BK168.out 2).trans rfl; have hfz47_0 := blk_frozen BK168.out 0; have hfz47_1 := blk_frozen BK168.out 1; have hfz47_2 := blk_frozen BK168.out 2) | ((with_reducible refine gate_callee (f := 16) rfl ?_); refine goesL_ (some 69) rfl rfl Try.func16 (by kernel_rfl) rfl #[.agg #[.int .i64 ((rd_T27 l0_2 x36_2).f0), .int .i64 ((rd_T27 l0_2 x36_2).f1), .slice A167_2 ((rd_T27 l0_2 x36_2).f2).length c167_2], .slice (some ad164) l1.length c1] rfl (by (try simp only [List.map_toArray, List.map_cons, List.map_nil]); first | done | rfl | (simp only [List.length_drop, List.length_take]; rfl)) ?_; (with_reducible refine (ih k2 (by have := HJ2.out; have := HK2.out; omega) ((rd_T27 l0_2 x36_2).f0) ((rd_T27 l0_2 x36_2).f1) _ _ ((rd_T27 l0_2 x36_2).f2) _ _ l1 false _ ?side1 ?side2 ?side3 ?side4 A39.out).mono ?_); (case side1 => exact Kd.C_below HR167_2.out (by repeat (first | (with_reducible first | exact HB.out | apply below_alloc | apply pw_below_drewN | apply below_drew1 | refine below_set ?_ GE163.out | refine below_set ?_ GE168.out) | exact HB.out))); (case side2 => exact HC167_2.out); (case side3 => exact Kd.C_below HR1.out (by repeat (first | (with_reducible first | exact HB.out | apply below_alloc | apply pw_below_drewN | apply below_drew1 | refine below_set ?_ GE163.out | refine below_set ?_ GE168.out) | exact HB.out))); (case side4 => exact HC1.out); rintro e w48 ⟨rfl, hb⟩; refine ⟨_, rfl, ?_⟩; have n0_ := Aside0.mk (blk_below (g := gb163) (o := .cells #[.int .i64 a0_0, .int .i64 a0_1, .slice (some ad167) l0_2.length c0_2] 27 (0, 0)) (by (with_reducible repeat (first | refine blk_drewN ?_ _ | refine blk_drew ?_ | refine blk_alloc ?_ _)); refine blk_far ?_ NB163_168.out _; (with_reducible repeat (first | refine blk_drewN ?_ _ | refine blk_drew ?_ | refine blk_alloc ?_ _)); refine blk_far ?_ NB163_168.out _; (with_reducible repeat (first | refine blk_drewN ?_ _ | refine blk_drew ?_ | refine blk_alloc ?_ _)); refine blk_far ?_ NB163_168.out _; (with_reducible repeat (first | refine blk_drewN ?_ _ | refine blk_drew ?_ | refine blk_alloc ?_ _)); exact BK163.out) hb); have n1_ := Aside0.mk (blk_below (g := gb168) (o := .cells #[.int .i64 ((rd_T27 l0_2 x36_2).f0), .int .i64 ((rd_T27 l0_2 x36_2).f1), .slice A167_2 ((rd_T27 l0_2 x36_2).f2).length c167_2] 27 (0, 0)) (by (with_reducible repeat (first | refine blk_drewN ?_ _ | refine blk_drew ?_ | refine blk_alloc ?_ _)); refine blk_put (cs := #[.int .i64 ((rd_T27 l0_2 x36_2).f0), .int .i64 ((rd_T27 l0_2 x36_2).f1), .slice none 0 0]) ?_ 2 _ rfl; (with_reducible repeat (first | refine blk_drewN ?_ _ | refine blk_drew ?_ | refine blk_alloc ?_ _)); refine blk_put (cs := #[.int .i64 ((rd_T27 l0_2 x36_2).f0), .int .i64 0, .slice none 0 0]) ?_ 1 _ rfl; (with_reducible repeat (first | refine blk_drewN ?_ _ | refine blk_drew ?_ | refine blk_alloc ?_ _)); refine blk_put (cs := #[.int .i64 0, .int .i64 0, .slice none 0 0]) ?_ 0 _ rfl; (with_reducible repeat (first | refine blk_drewN ?_ _ | refine blk_drew ?_ | refine blk_alloc ?_ _)); exact BK168.out) hb); have n2_ := Aside0.mk (below_step (by repeat (first | (with_reducible first | exact HB.out | apply below_alloc | apply pw_below_drewN | apply below_drew1 | refine below_set ?_ GE163.out | refine below_set ?_ GE168.out) | exact HB.out)) hb); clear BK163; clear BK168; clear HB; have BK163 := n0_; have BK168 := n1_; have HB := n2_; clear n0_ n1_ n2_; (try clear hb); (try clear hb2); (try clear hk); (try clear hi)))
                          go_ret
                          exact ⟨by first | rfl | (simp [errW_none, errW_some] <;> rfl) | (simp [*, errW_none, errW_some] <;> rfl), by repeat (first | (with_reducible first | exact HB.out | apply below_alloc | apply pw_below_drewN | apply below_drew1 | refine below_set ?_ GE163.out | refine below_set ?_ GE168.out) | exact HB.out)⟩
                    · rw [if_neg c18] at H
                      exact absurd H (by simp)
                  · rw [if_neg c17] at H
                    exact absurd H (by simp)
                · rw [if_neg c16] at H
                  have c16b0 : decide (x36_2 < (l0_2.length : Int)) = false := decide_eq_false c16
                  clear c16
                  obtain rfl := Option.some.inj H
                  go_wp2
                  go_ret
                  exact ⟨by first | rfl | (simp [errW_none, errW_some] <;> rfl) | (simp [*, errW_none, errW_some] <;> rfl), by repeat (first | (with_reducible first | exact HB.out | apply below_alloc | apply pw_below_drewN | apply below_drew1 | refine below_set ?_ GE163.out) | exact HB.out)⟩
          · rw [if_neg c11] at H
            exact absurd H (by simp)
        · rw [if_neg c10] at H
          exact absurd H (by simp)

end Go.Proofs.Ytdfiohekkegjdaa.QI
