-- Laid by this claim's own program (mprint.py in the repo).
import Derived.Test.YtfccifekaokibaaGreatDoorQTx0
import Derived.Test.YtfccifekaokibaaGreatDoorQTx2
import Derived.Test.YtfccifekaokibaaGreatDoorQTx4
namespace Go.Proofs.YtfccifekaokibaaGreatDoor.QT
open Go.RowKit Go.Proofs.YtfccifekaokibaaGreatDoorW.PrintWords Go.Proofs.YtfccifekaokibaaGreatDoorW.PrintLast Go.Proofs.YtfccifekaokibaaGreatDoorW.PrintMore
attribute [local go_sem] max2_int min2_int max_two min_two max_three min_three max_four min_four   -- for this text's walks alone
set_option linter.unusedVariables false
set_option linter.unusedSimpArgs false

/-- A state of type 82 at block g of W; what its slices lead to came in by w0. -/
def IsS82 (w0 W : World) (g : Nat) (f0 : ByteArray) (f1 : Int) : Prop := W.heap[g]? = some (.cells #[.string f0, .int .i64 f1] 82 (0, 0)) ∧ w0.heap.size ≤ g
theorem IsS82.grown {w0 W : World} {g : Nat} {f0 : ByteArray} {f1 : Int} {W1 : World} {row : Option Nat} (h : IsS82 w0 W g f0 f1) (hw : W.grownBy W1 row) (hne : some g ≠ row) : IsS82 w0 W1 g f0 f1 := by
 obtain ⟨hb, hg⟩ := h
 exact ⟨blk_grown hb hw hne, hg⟩
theorem IsS82.fresh {w0 W : World} {g : Nat} {f0 : ByteArray} {f1 : Int} (h : IsS82 w0 W g f0 f1) : ∀ k, W.heap.size ≤ k → k ≠ g := by
 obtain ⟨hb, hg⟩ := h
 exact Kd.freshB hb
theorem IsS82.kept {w0 W : World} {g : Nat} {f0 : ByteArray} {f1 : Int} {W1 : World} {S : Nat → Prop} (h : IsS82 w0 W g f0 f1) (hk : Kept W W1 S) (hne : ¬ S g) : IsS82 w0 W1 g f0 f1 := by
 obtain ⟨hb, hg⟩ := h
 exact ⟨blk_kept hb hk hne, hg⟩
theorem IsS82.below {w0 W : World} {g : Nat} {f0 : ByteArray} {f1 : Int} {W1 : World} (h : IsS82 w0 W g f0 f1) (hw : Below W.heap.size W W1) : IsS82 w0 W1 g f0 f1 := h.grown (grown_of_below hw none) (by simp)
theorem IsS82.alloc {w0 W : World} {g : Nat} {f0 : ByteArray} {f1 : Int} (h : IsS82 w0 W g f0 f1) (o : Obj) : IsS82 w0 (W.alloc o) g f0 f1 := h.below (below_alloc (Below.refl _ _) o)
theorem IsS82.drewN {w0 W : World} {g : Nat} {f0 : ByteArray} {f1 : Int} (h : IsS82 w0 W g f0 f1) (m : Nat) : IsS82 w0 (W.drewN m) g f0 f1 := h
theorem IsS82.drew {w0 W : World} {g : Nat} {f0 : ByteArray} {f1 : Int} (h : IsS82 w0 W g f0 f1) : IsS82 w0 W.drew g f0 f1 := h
theorem IsS82.at_ {w0 W : World} {g : Nat} {f0 : ByteArray} {f1 : Int} {w' : World} {m : Nat} (hq : W.drewN m = w') (h : IsS82 w0 W g f0 f1) : IsS82 w0 w' g f0 f1 := by subst hq; exact IsS82.drewN h m
theorem IsS82.apart {w0 W : World} {g : Nat} {f0 : ByteArray} {f1 : Int} {α : Type} {d : Kd α} {e : Nat} {base : Nat} {ok : Nat → Prop} {v : Value} {xs : List α} (h : IsS82 w0 W g f0 f1) (ho : d.R e W base ok v xs) (ht : ∀ q, q ∈ e :: d.E → q ≠ 82) : d.R e W base (fun k => ok k ∧ k ≠ g) v xs := by
 obtain ⟨hb, hg⟩ := h
 exact Kd.R_types ho hb ht
theorem IsS82.lt {w0 W : World} {g : Nat} {f0 : ByteArray} {f1 : Int} (h : IsS82 w0 W g f0 f1) : g < W.heap.size := by
 obtain ⟨hb, hg⟩ := h
 exact blk_lt hb
theorem IsS82.far {w0 W : World} {g : Nat} {f0 : ByteArray} {f1 : Int} {p : Addr} (h : IsS82 w0 W g f0 f1) (hne : g ≠ p.block) (u : Value) : IsS82 w0 (W.setCell p u) g f0 f1 := by
 obtain ⟨hb, hg⟩ := h
 exact ⟨blk_far hb hne u, hg⟩
theorem cellS82_0 {W : World} {g : Nat} {f0 : ByteArray} {f1 : Int} (h : W.heap[g]? = some (.cells #[.string f0, .int .i64 f1] 82 (0, 0))) : W.cell? ⟨g, 0, none⟩ = some (.string f0) := (blk_cell h 0).trans rfl
theorem cellS82_1 {W : World} {g : Nat} {f0 : ByteArray} {f1 : Int} (h : W.heap[g]? = some (.cells #[.string f0, .int .i64 f1] 82 (0, 0))) : W.cell? ⟨g, 1, none⟩ = some (.int .i64 f1) := (blk_cell h 1).trans rfl
theorem IsS82.set_1 {w0 W : World} {g : Nat} {f0 : ByteArray} {f1 : Int} (h : IsS82 w0 W g f0 f1) (x : Int) : IsS82 w0 (W.setCell ⟨g, 1, none⟩ (.int .i64 x)) g f0 x := by
 obtain ⟨hb, hg⟩ := h
 exact ⟨by simpa using blk_set hb 1 (.int .i64 x), hg⟩
theorem IsS82.new (w0 W : World) (f0 : ByteArray) (f1 : Int) (hB : Below w0.heap.size w0 W) : IsS82 w0 (W.alloc (.cells #[.string f0, .int .i64 f1] 82)) W.heap.size f0 f1 := ⟨by simpa using heap_alloc_new W _, hB.size⟩

/-! ### lex_cursor_note: function 95 -/
theorem wp_scope_ghost {P : Program} {a : Act} {w : World} {Q : Exit → Act → World → Prop} {c rest : Code} (l : Nat) (J : Nat → Act → World → Prop) (hf : findLabel c l = some (Code.skip.seq rest))
  (pass : ∀ n a w, J n a w → rest.wp P (Exit.jump l (fun a' w' => ∃ n', n' < n ∧ J n' a' w') Q) a w)
  (first : (∀ n a w, J n a w → rest.wp P (Exit.jump l (fun a' w' => ∃ n', J n' a' w') Q) a w) → c.wp P (Exit.jump l (fun a' w' => ∃ n, J n a' w') Q) a w) : (Code.scope c).wp P Q a w := by
 refine wp_scope_jumps l (fun a w => ∃ n, J n a w) (fun a w => leastOf (fun n => J n a w)) hf (first fun n a w h => wp_mono (pass n a w h) (fun e a' w' hq => by
  cases e with
  | goto l' => obtain ⟨hl, n', _, hJ⟩ := hq; exact ⟨hl, n', hJ⟩
  | normal => exact hq
  | exit id => exact hq
  | ret => exact hq
  | panic ch => exact hq
  | outgrown => exact hq)) ?_
 intro a w hI
 refine wp_mono (c := Code.skip.seq rest) (wp_seq (wp_skip (pass _ a w (leastOf_spec hI).1))) ?_
 intro e a' w' hq
 cases e with
 | goto l' =>
  obtain ⟨hl, n', hlt, hJ⟩ := hq
  exact ⟨hl, ⟨n', hJ⟩, Nat.lt_of_le_of_lt ((leastOf_spec ⟨n', hJ⟩).2 n' hJ) hlt⟩
 | normal => exact hq
 | exit id => exact hq
 | ret => exact hq
 | panic ch => exact hq
 | outgrown => exact hq
def lex_cursor_note.l : Nat → ByteArray → Int → Int → Option Int
 | 0, _, _, _ => none
 | k + 1, s, deep, at_ => if at_ ≥ (s.size : Int) then some (-1) else if 0 ≤ at_ then
   (strings_HasPrefix.f (s.extract at_.toNat s.size) (⟨#[40, 42]⟩ : ByteArray)).bind fun b => if b = true then (if wrap64 (deep + 1) > 0 then lex_cursor_note.l k s (wrap64 (deep + 1)) (wrap64 (at_ + 2)) else some (wrap64 (at_ + 2)))
   else (strings_HasPrefix.f (s.extract at_.toNat s.size) (⟨#[42, 41]⟩ : ByteArray)).bind fun b2 => if b2 = true then (if wrap64 (deep - 1) > 0 then lex_cursor_note.l k s (wrap64 (deep - 1)) (wrap64 (at_ + 2)) else some (wrap64 (at_ + 2)))
   else (if deep > 0 then lex_cursor_note.l k s deep (wrap64 (at_ + 1)) else some (wrap64 (at_ + 1)))
  else none
def lex_cursor_note.f (k : Nat) (s0_0 : ByteArray) (s0_1 : Int) : Option (Int × ByteArray × Int) := (lex_cursor_note.l k s0_0 0 s0_1).bind fun r => some (r, s0_0, s0_1)
theorem lex_cursor_note.mono_l : ∀ k, (∀ y0 y1 y2, LeO (lex_cursor_note.l k y0 y1 y2) (lex_cursor_note.l (k + 1) y0 y1 y2))
 | 0 => fun _ _ _ r h => by simp [lex_cursor_note.l] at h
 | k + 1 => by
  have ih0 := lex_cursor_note.mono_l k
  intro y0 y1 y2
  unfold lex_cursor_note.l
  repeat' first
   | (with_reducible exact ih0 _ _ _)
   | (with_reducible exact LeO.refl _)
   | (with_reducible refine LeO.ite ?_ ?_)
   | (with_reducible refine LeO.bind ?_ (fun _ => ?_))
theorem lex_cursor_note.mono : ∀ a0 a1 k, LeO (lex_cursor_note.f k a0 a1) (lex_cursor_note.f (k + 1) a0 a1) := by
 intro a0 a1 k
 unfold lex_cursor_note.f
 exact LeO.bind (lex_cursor_note.mono_l k _ _ _) (fun _ => LeO.refl _)
set_option maxHeartbeats 1000000 in
set_option maxRecDepth 100000 in
theorem lex_cursor_note.calls (k : Nat) (g : Nat) (s0_0 : ByteArray) (s0_1 : Int) (r1 : Int) (r2 : ByteArray) (r3 : Int) (w0 w : World) (hI : IsS82 w0 w g s0_0 s0_1) (hB : Below w0.heap.size w0 w) (h : lex_cursor_note.f k s0_0 s0_1 = some (r1, r2, r3)) :
  Calls Tryz.prog 95 #[.pointer (some ⟨g, 0, none⟩)] w fun e w' => e = .returned (.int .i64 r1) ∧ IsS82 w0 w' g r2 r3 ∧ Below w0.heap.size w0 w' ∧ KeepBut w w' g none := by
 obtain ⟨rr, h1, h2⟩ := Option.bind_eq_some_iff.mp h
 obtain ⟨rfl, rfl, rfl⟩ : rr = r1 ∧ s0_0 = r2 ∧ s0_1 = r3 := by simpa using h2
 clear h h2
 have HI0 := Aside0.mk hI
 have HB := Aside0.mk hB
 have H := Aside0.mk h1
 obtain ⟨HGz2, hgz2⟩ := hI
 have hcz2_0 := cellS82_0 HGz2
 have hcz2_1 := cellS82_1 HGz2
 clear HGz2 hgz2 hB h1
 go_enter Tryz.func95, Tryz.ntmps95
 go_wp2
 refine wp_scope_ghost 0 (fun n a' w' => ∃ (deep at_ : Int) (u5 u6 u7 u8 u9 u10 u11 u12 u13 u14 u15 u16 u17 u18 u19 u20 u21 u22 u23 u24 u25 u26 u27 u28 u29 u30 u31 u32 u33 u34 u35 u36 u37 u38 u39 u40 u41 : Value),
  (Aside0 (lex_cursor_note.l n s0_0 deep at_ = some rr) ∧ Aside0 (IsS82 w0 w' g s0_0 s0_1) ∧ Drawn0 w w') ∧
  a' = { tmps := #[.pointer (some ⟨g, 0, none⟩), undef, .int .i64 0, .int .i64 deep, .int .i64 at_, u5, u6, u7, u8, u9, u10, u11, u12, u13, u14, u15, u16, u17, u18, u19, u20, u21, u22, u23, u24, u25, u26, u27, u28, u29, u30, u31, u32, u33, u34, u35, u36, u37, u38, u39, u40, u41], defers := [] }) rfl ?_ ?_
 ·rintro n a' w' ⟨deep, at_, u5, u6, u7, u8, u9, u10, u11, u12, u13, u14, u15, u16, u17, u18, u19, u20, u21, u22, u23, u24, u25, u26, u27, u28, u29, u30, u31, u32, u33, u34, u35, u36, u37, u38, u39, u40, u41, ⟨HA, HI1, ⟨m1, rfl⟩⟩, rfl⟩
  cases n with
  | zero => exact absurd HA.out (by simp [lex_cursor_note.l])
  | succ n =>
  have H := HA.out
  clear HA
  simp only [lex_cursor_note.l] at H
  by_cases c1 : at_ ≥ (s0_0.size : Int)
  ·rw [if_pos c1] at H
   have c1b : decide ((s0_0.size : Int) ≤ at_) = true := decide_eq_true c1
   clear c1
   obtain rfl := Option.some.inj H
   clear H
   go_wp2
   simp only [Exit.jump]
   go_ret
   exact ⟨rfl, HI1.out, by repeat (first | (with_reducible exact HB.out) | apply pw_below_drewN ), by repeat (first | (with_reducible exact KeepBut.refl _ _ _) | apply keep_drewN )⟩
  ·rw [if_neg c1] at H
   have c1b : decide ((s0_0.size : Int) ≤ at_) = false := decide_eq_false c1
   by_cases c2 : 0 ≤ at_
   ·rw [if_pos c2] at H
    have c1l : at_ < (s0_0.size : Int) := by omega
    clear c1
    obtain ⟨b, hb, H⟩ := Option.bind_eq_some_iff.mp H
    have HB1 := Aside0.mk hb
    clear hb
    cases b with
    | true =>
     rw [if_pos rfl] at H
     by_cases c3 : wrap64 (deep + 1) > 0
     ·rw [if_pos c3] at H
      have c3b : decide (0 < wrap64 (deep + 1)) = true := decide_eq_true c3
      clear c3
      have H' := Aside0.mk H
      clear H
      go_wp2_with fail
      refine (strings_HasPrefix.calls _ _ _ _ HB1.out).mono ?_
      rintro e w' ⟨rfl, ⟨nd1, rfl⟩⟩
      go_wp2
      go_step3
      exact ⟨rfl, n, Nat.lt_succ_self n, _, _, _, _, _, _, _, _, _, _, _, _, _, _, _, _, _, _, _, _, _, _, _, _, _, _, _, _, _, _, _, _, _, _, _, _, _, _, _, ⟨H', HI1, by repeat (first | exact Drawn0.refl _ | apply Drawn0.step)⟩, rfl⟩
     ·rw [if_neg c3] at H
      have c3b : decide (0 < wrap64 (deep + 1)) = false := decide_eq_false c3
      clear c3
      obtain rfl := Option.some.inj H
      clear H
      go_wp2_with fail
      refine (strings_HasPrefix.calls _ _ _ _ HB1.out).mono ?_
      rintro e w' ⟨rfl, ⟨nd1, rfl⟩⟩
      go_wp2
      simp only [Exit.jump]
      go_ret
      exact ⟨rfl, HI1.out, by repeat (first | (with_reducible exact HB.out) | apply pw_below_drewN ), by repeat (first | (with_reducible exact KeepBut.refl _ _ _) | apply keep_drewN )⟩
    | false =>
     rw [if_neg (by simp)] at H
     obtain ⟨b2, hb2, H⟩ := Option.bind_eq_some_iff.mp H
     have HB2 := Aside0.mk hb2
     clear hb2
     cases b2 with
     | true =>
      rw [if_pos rfl] at H
      by_cases c3 : wrap64 (deep - 1) > 0
      ·rw [if_pos c3] at H
       have c3b : decide (0 < wrap64 (deep - 1)) = true := decide_eq_true c3
       clear c3
       have H' := Aside0.mk H
       clear H
       go_wp2_with fail
       refine (strings_HasPrefix.calls _ _ _ _ HB1.out).mono ?_
       rintro e w' ⟨rfl, ⟨nd1, rfl⟩⟩
       go_wp2_with fail
       refine (strings_HasPrefix.calls _ _ _ _ HB2.out).mono ?_
       rintro e w' ⟨rfl, ⟨nd2, rfl⟩⟩
       go_wp2
       go_step3
       exact ⟨rfl, n, Nat.lt_succ_self n, _, _, _, _, _, _, _, _, _, _, _, _, _, _, _, _, _, _, _, _, _, _, _, _, _, _, _, _, _, _, _, _, _, _, _, _, _, _, _, ⟨H', HI1, by repeat (first | exact Drawn0.refl _ | apply Drawn0.step)⟩, rfl⟩
      ·rw [if_neg c3] at H
       have c3b : decide (0 < wrap64 (deep - 1)) = false := decide_eq_false c3
       clear c3
       obtain rfl := Option.some.inj H
       clear H
       go_wp2_with fail
       refine (strings_HasPrefix.calls _ _ _ _ HB1.out).mono ?_
       rintro e w' ⟨rfl, ⟨nd1, rfl⟩⟩
       go_wp2_with fail
       refine (strings_HasPrefix.calls _ _ _ _ HB2.out).mono ?_
       rintro e w' ⟨rfl, ⟨nd2, rfl⟩⟩
       go_wp2
       simp only [Exit.jump]
       go_ret
       exact ⟨rfl, HI1.out, by repeat (first | (with_reducible exact HB.out) | apply pw_below_drewN ), by repeat (first | (with_reducible exact KeepBut.refl _ _ _) | apply keep_drewN )⟩
     | false =>
      rw [if_neg (by simp)] at H
      by_cases c3 : deep > 0
      ·rw [if_pos c3] at H
       have c3b : decide (0 < deep) = true := decide_eq_true c3
       clear c3
       have H' := Aside0.mk H
       clear H
       go_wp2_with fail
       refine (strings_HasPrefix.calls _ _ _ _ HB1.out).mono ?_
       rintro e w' ⟨rfl, ⟨nd1, rfl⟩⟩
       go_wp2_with fail
       refine (strings_HasPrefix.calls _ _ _ _ HB2.out).mono ?_
       rintro e w' ⟨rfl, ⟨nd2, rfl⟩⟩
       go_wp2
       go_step3
       exact ⟨rfl, n, Nat.lt_succ_self n, _, _, _, _, _, _, _, _, _, _, _, _, _, _, _, _, _, _, _, _, _, _, _, _, _, _, _, _, _, _, _, _, _, _, _, _, _, _, _, ⟨H', HI1, by repeat (first | exact Drawn0.refl _ | apply Drawn0.step)⟩, rfl⟩
      ·rw [if_neg c3] at H
       have c3b : decide (0 < deep) = false := decide_eq_false c3
       clear c3
       obtain rfl := Option.some.inj H
       clear H
       go_wp2_with fail
       refine (strings_HasPrefix.calls _ _ _ _ HB1.out).mono ?_
       rintro e w' ⟨rfl, ⟨nd1, rfl⟩⟩
       go_wp2_with fail
       refine (strings_HasPrefix.calls _ _ _ _ HB2.out).mono ?_
       rintro e w' ⟨rfl, ⟨nd2, rfl⟩⟩
       go_wp2
       simp only [Exit.jump]
       go_ret
       exact ⟨rfl, HI1.out, by repeat (first | (with_reducible exact HB.out) | apply pw_below_drewN ), by repeat (first | (with_reducible exact KeepBut.refl _ _ _) | apply keep_drewN )⟩
   ·rw [if_neg c2] at H
    cases H
 ·intro hp
  have HP := Aside0.mk hp
  clear hp
  go_wp2
  go_step3
  rename_i hK
  refine hK _ _ ?_
  exact HP.out k _ _ ⟨0, s0_1, _, _, _, _, _, _, _, _, _, _, _, _, _, _, _, _, _, _, _, _, _, _, _, _, _, _, _, _, _, _, _, _, _, _, _, _, _, ⟨H, HI0, Drawn0.refl _⟩, rfl⟩

/-! ### lex_cursor_text: function 96 -/
def lex_cursor_text.l0 : Nat → Int → ByteArray → Int → Option (Int × ByteArray × Int)
 | 0, _, _, _ => none
 | k + 1, x3, x1000, x1001 => if x3 < (x1000.size : Int) then (if 0 ≤ x3 then (if (bt x1000 x3) = 34 then (some (wrap64 (x3 + 1), x1000, x1001)) else (if (bt x1000 x3) = 10 then (some ((-1), x1000, x1001)) else (if (bt x1000 x3) = 92 then (if (wrap64 (x3 + 1)) ≥ (x1000.size : Int) then (some ((-1), x1000, x1001)) else (if 0 ≤ (wrap64 (x3 + 1)) then (if (wrap64 (x3 + 1)) ≤ (wrap64 ((wrap64 (x3 + 1)) + 1)) then (if (wrap64 ((wrap64 (x3 + 1)) + 1)) ≤ (x1000.size : Int) then ((strings_Contains.f (⟨#[34, 92, 110, 116]⟩ : ByteArray) (x1000.extract ((wrap64 (x3 + 1)) : Int).toNat ((wrap64 ((wrap64 (x3 + 1)) + 1)) : Int).toNat)).bind fun t135 => (if t135 = true then (lex_cursor_text.l0 k (wrap64 ((wrap64 (x3 + 1)) + 1)) x1000 x1001) else (some ((-1), x1000, x1001)))) else (none)) else (none)) else (none))) else (lex_cursor_text.l0 k (wrap64 (x3 + 1)) x1000 x1001)))) else (none)) else (some ((-1), x1000, x1001))
def lex_cursor_text.f (k : Nat) (s0_0 : ByteArray) (s0_1 : Int) : Option (Int × ByteArray × Int) := lex_cursor_text.l0 k (wrap64 (s0_1 + 1)) s0_0 s0_1
theorem lex_cursor_text.mono_l : ∀ k, (∀ y0 y1 y2, LeO (lex_cursor_text.l0 k y0 y1 y2) (lex_cursor_text.l0 (k + 1) y0 y1 y2))
 | 0 => fun _ _ _ r h => by simp [lex_cursor_text.l0] at h
 | k + 1 => by
  have ih0 := lex_cursor_text.mono_l k
  ·intro y0 y1 y2
   unfold lex_cursor_text.l0
   repeat' first
   | (with_reducible exact ih0 _ _ _)
   | (with_reducible exact LeO.refl _)
   | (with_reducible refine LeO.ite ?_ ?_)
   | (with_reducible refine LeO.bind ?_ (fun _ => ?_))
theorem lex_cursor_text.mono : ∀ a0 a1 k, LeO (lex_cursor_text.f k a0 a1) (lex_cursor_text.f (k + 1) a0 a1) := by
 intro a0 a1 k
 have ih0 := lex_cursor_text.mono_l k
 unfold lex_cursor_text.f
 repeat' with_reducible exact ih0 _ _ _
set_option maxHeartbeats 8000000 in
set_option maxRecDepth 100000 in
theorem lex_cursor_text.calls (k : Nat) (g : Nat) (s0_0 : ByteArray) (s0_1 : Int) (r1 : Int) (r2 : ByteArray) (r3 : Int) (w0 w : World) (hI : IsS82 w0 w g s0_0 s0_1) (hB : Below w0.heap.size w0 w) (h : lex_cursor_text.f k s0_0 s0_1 = some (r1, r2, r3)) :
  Calls Tryz.prog 96 #[.pointer (some ⟨g, 0, none⟩)] w fun e w' => e = .returned (.int .i64 r1) ∧ IsS82 w0 w' g r2 r3 ∧ Below w0.heap.size w0 w' ∧ KeepBut w w' g none := by
 have HI0 := Aside0.mk hI
 have HK := Aside0.mk (KeepBut.refl w g none)
 have HL := Aside0.mk hB.size
 clear hI
 have HW0 := Aside0.mk hB.size
 have HB := Aside0.mk hB
 clear hB
 have H : (lex_cursor_text.l0 k (wrap64 (s0_1 + 1)) s0_0 s0_1) = some (r1, r2, r3) := h
 clear h
 have H' := Aside0.mk H
 clear H
 obtain ⟨HGz2, hgz2⟩ := HI0.out
 have hcz2_0 := cellS82_0 HGz2
 have hcz2_1 := cellS82_1 HGz2
 have hfz2_0 := blk_frozen HGz2 0
 have hfz2_1 := blk_frozen HGz2 1
 clear HGz2 hgz2
 go_enter Tryz.func96, Tryz.ntmps96
 go_wp2
 go_loopg [3] k (fun kq v3 w' => ∃ (x3_1 : Int), v3 = .int .i64 x3_1 ∧ Aside0 (lex_cursor_text.l0 kq x3_1 s0_0 s0_1 = some (r1, r2, r3)) ∧ Aside0 (kq ≤ k) ∧ Aside0 (IsS82 w0 w' g s0_0 s0_1) ∧ Aside0 (KeepBut w w' g none) ∧ Aside0 (Below w0.heap.size w0 w'))
 case atStart => exact ⟨(wrap64 (s0_1 + 1)), (by rfl), H', ⟨Nat.le_refl _⟩, ⟨by repeat (with_reducible exact HI0.out)⟩, ⟨by repeat (with_reducible exact HK.out)⟩, ⟨by repeat (with_reducible exact HB.out)⟩⟩
 case round =>
  clear H'
  clear hcz2_0 hcz2_1 hfz2_0 hfz2_1
  obtain ⟨x3_1, rfl, HA, HK1, HI0, HK, HB⟩ := hrel
  cases gk with
  | zero => exact absurd HA.out (by simp [lex_cursor_text.l0])
  | succ k1 =>
   have H := HA.out
   clear HA
   simp only [lex_cursor_text.l0] at H
   by_cases c3 : x3_1 < (s0_0.size : Int)
   ·rw [if_pos c3] at H
    have c3b0 : decide (x3_1 < (s0_0.size : Int)) = true := decide_eq_true c3
    clear c3
    by_cases c4 : 0 ≤ x3_1
    ·rw [if_pos c4] at H
     have c4b0 : decide (0 ≤ x3_1) = true := decide_eq_true c4
     clear c4
     by_cases c6 : (bt s0_0 x3_1) = 34
     ·rw [if_pos c6] at H
      have c6b0 : ((bt s0_0 x3_1) == 34) = true := beq_iff_eq.mpr c6
      have c6b1 : ((bt s0_0 x3_1) != 34) = false := bne_eq_false_iff_eq.mpr c6
      clear c6
      simp only [Option.some.injEq, Prod.mk.injEq] at H
      obtain ⟨rfl, rfl, rfl⟩ := H
      obtain ⟨HGz7, hgz7⟩ := HI0.out
      have hcz7_0 := cellS82_0 HGz7
      have hcz7_1 := cellS82_1 HGz7
      have hfz7_0 := blk_frozen HGz7 0
      have hfz7_1 := blk_frozen HGz7 1
      clear HGz7 hgz7
      have p5 : 0 ≤ (x3_1 : Int) := of_decide_eq_true (by with_reducible assumption)
      have q5 : x3_1 < (s0_0.size : Int) := of_decide_eq_true (by with_reducible assumption)
      have hx5 := bt_at s0_0 x3_1
      replace p5 := eq_true p5
      replace q5 := eq_true q5
      go_wp2
      go_ret
      exact ⟨by rfl, by repeat (with_reducible exact HI0.out), by repeat (with_reducible exact HB.out), by repeat (with_reducible exact HK.out)⟩
     ·rw [if_neg c6] at H
      have c6b0 : ((bt s0_0 x3_1) == 34) = false := beq_eq_false_iff_ne.mpr c6
      have c6b1 : ((bt s0_0 x3_1) != 34) = true := bne_iff_ne.mpr c6
      by_cases c8 : (bt s0_0 x3_1) = 10
      ·rw [if_pos c8] at H
       have c8b0 : ((bt s0_0 x3_1) == 10) = true := beq_iff_eq.mpr c8
       have c8b1 : ((bt s0_0 x3_1) != 10) = false := bne_eq_false_iff_eq.mpr c8
       clear c8
       simp only [Option.some.injEq, Prod.mk.injEq] at H
       obtain ⟨rfl, rfl, rfl⟩ := H
       obtain ⟨HGz9, hgz9⟩ := HI0.out
       have hcz9_0 := cellS82_0 HGz9
       have hcz9_1 := cellS82_1 HGz9
       have hfz9_0 := blk_frozen HGz9 0
       have hfz9_1 := blk_frozen HGz9 1
       clear HGz9 hgz9
       have p5 : 0 ≤ (x3_1 : Int) := of_decide_eq_true (by with_reducible assumption)
       have q5 : x3_1 < (s0_0.size : Int) := of_decide_eq_true (by with_reducible assumption)
       have hx5 := bt_at s0_0 x3_1
       replace p5 := eq_true p5
       replace q5 := eq_true q5
       go_wp2
       go_ret
       exact ⟨by rfl, by repeat (with_reducible exact HI0.out), by repeat (with_reducible exact HB.out), by repeat (with_reducible exact HK.out)⟩
      ·rw [if_neg c8] at H
       have c8b0 : ((bt s0_0 x3_1) == 10) = false := beq_eq_false_iff_ne.mpr c8
       have c8b1 : ((bt s0_0 x3_1) != 10) = true := bne_iff_ne.mpr c8
       by_cases c10 : (bt s0_0 x3_1) = 92
       ·rw [if_pos c10] at H
        have c10b0 : ((bt s0_0 x3_1) == 92) = true := beq_iff_eq.mpr c10
        have c10b1 : ((bt s0_0 x3_1) != 92) = false := bne_eq_false_iff_eq.mpr c10
        clear c10
        by_cases c11 : (wrap64 (x3_1 + 1)) ≥ (s0_0.size : Int)
        ·rw [if_pos c11] at H
         have c11b0 : decide ((s0_0.size : Int) ≤ (wrap64 (x3_1 + 1))) = true := decide_eq_true c11
         clear c11
         simp only [Option.some.injEq, Prod.mk.injEq] at H
         obtain ⟨rfl, rfl, rfl⟩ := H
         obtain ⟨HGz12, hgz12⟩ := HI0.out
         have hcz12_0 := cellS82_0 HGz12
         have hcz12_1 := cellS82_1 HGz12
         have hfz12_0 := blk_frozen HGz12 0
         have hfz12_1 := blk_frozen HGz12 1
         clear HGz12 hgz12
         have p5 : 0 ≤ (x3_1 : Int) := of_decide_eq_true (by with_reducible assumption)
         have q5 : x3_1 < (s0_0.size : Int) := of_decide_eq_true (by with_reducible assumption)
         have hx5 := bt_at s0_0 x3_1
         replace p5 := eq_true p5
         replace q5 := eq_true q5
         go_wp2
         go_ret
         exact ⟨by rfl, by repeat (with_reducible exact HI0.out), by repeat (with_reducible exact HB.out), by repeat (with_reducible exact HK.out)⟩
        ·rw [if_neg c11] at H
         have c11b0 : decide ((s0_0.size : Int) ≤ (wrap64 (x3_1 + 1))) = false := decide_eq_false c11
         clear c11
         obtain ⟨ji13, hji13⟩ : ∃ j_ : Int, (wrap64 (x3_1 + 1)) = j_ := ⟨_, rfl⟩
         replace H : (if 0 ≤ (ji13) then (if (ji13) ≤ (wrap64 ((ji13) + 1)) then (if (wrap64 ((ji13) + 1)) ≤ (s0_0.size : Int) then ((strings_Contains.f (⟨#[34, 92, 110, 116]⟩ : ByteArray) (s0_0.extract ((ji13) : Int).toNat ((wrap64 ((ji13) + 1)) : Int).toNat)).bind fun t135 => (if t135 = true then (lex_cursor_text.l0 k1 (wrap64 ((ji13) + 1)) s0_0 s0_1) else (some ((-1), s0_0, s0_1)))) else (none)) else (none)) else (none)) = some (r1, r2, r3) := by (rw [hji13] at H; exact H)
         (try rw [hji13] at c11b0)
         have hji13w : (IntKind.i64.wrap (x3_1 + 1)) = ji13 := (i64_w _).trans hji13
         by_cases c14 : 0 ≤ (ji13)
         ·rw [if_pos c14] at H
          have c14b0 := eq_true c14
          have c14b1 : decide (0 ≤ (ji13)) = true := decide_eq_true c14
          clear c14
          by_cases c15 : (ji13) ≤ (wrap64 ((ji13) + 1))
          ·rw [if_pos c15] at H
           have c15b0 := eq_true c15
           have c15b1 : decide ((ji13) ≤ (wrap64 ((ji13) + 1))) = true := decide_eq_true c15
           by_cases c16 : (wrap64 ((ji13) + 1)) ≤ (s0_0.size : Int)
           ·rw [if_pos c16] at H
            have c16b0 := eq_true c16
            have c16b1 : decide ((wrap64 ((ji13) + 1)) ≤ (s0_0.size : Int)) = true := decide_eq_true c16
            replace H := Option.bind_eq_some_iff.mp H
            obtain ⟨t135, A170, H⟩ := H
            replace H : (if t135 = true then (lex_cursor_text.l0 k1 (wrap64 ((ji13) + 1)) s0_0 s0_1) else (some ((-1), s0_0, s0_1))) = some (r1, r2, r3) := H
            have A17 := Aside0.mk A170
            clear A170
            by_cases c18 : t135 = true
            ·subst c18
             have H1 : (lex_cursor_text.l0 k1 (wrap64 ((ji13) + 1)) s0_0 s0_1) = some (r1, r2, r3) := by rw [if_pos rfl] at H; exact H
             clear H
             have H := H1
             clear H1
             have H' := Aside0.mk H
             clear H
             obtain ⟨HGz19, hgz19⟩ := HI0.out
             have hcz19_0 := cellS82_0 HGz19
             have hcz19_1 := cellS82_1 HGz19
             have hfz19_0 := blk_frozen HGz19 0
             have hfz19_1 := blk_frozen HGz19 1
             clear HGz19 hgz19
             have p5 : 0 ≤ (x3_1 : Int) := of_decide_eq_true (by with_reducible assumption)
             have q5 : x3_1 < (s0_0.size : Int) := of_decide_eq_true (by with_reducible assumption)
             have hx5 := bt_at s0_0 x3_1
             replace p5 := eq_true p5
             replace q5 := eq_true q5
             go_wp2_with ((go_at_call 51; (with_reducible refine (strings_Contains.calls (⟨#[34, 92, 110, 116]⟩ : ByteArray) (s0_0.extract ((ji13) : Int).toNat ((wrap64 ((ji13) + 1)) : Int).toNat) true _ A17.out).mono ?_); rintro e w' ⟨rfl, ⟨nd, rfl⟩⟩))
             go_roundg k1
             case measure => have := HK1.out; omega
             case rel => exact ⟨(wrap64 ((ji13) + 1)), (by rfl), H', ⟨by have := HK1.out; omega⟩, ⟨by repeat ((with_reducible first | exact HI0.out | apply IsS82.drewN ))⟩, ⟨by repeat ((with_reducible first | exact HK.out | apply keep_drewN ))⟩, ⟨by repeat ((with_reducible first | exact HB.out | apply pw_below_drewN ))⟩⟩
            ·replace c18 := Bool.eq_false_iff.mpr c18
             subst c18
             have H1 : (some ((-1), s0_0, s0_1)) = some (r1, r2, r3) := by rw [if_neg (show ¬ (false = true) by decide)] at H; exact H
             clear H
             have H := H1
             clear H1
             simp only [Option.some.injEq, Prod.mk.injEq] at H
             obtain ⟨rfl, rfl, rfl⟩ := H
             obtain ⟨HGz20, hgz20⟩ := HI0.out
             have hcz20_0 := cellS82_0 HGz20
             have hcz20_1 := cellS82_1 HGz20
             have hfz20_0 := blk_frozen HGz20 0
             have hfz20_1 := blk_frozen HGz20 1
             clear HGz20 hgz20
             have p5 : 0 ≤ (x3_1 : Int) := of_decide_eq_true (by with_reducible assumption)
             have q5 : x3_1 < (s0_0.size : Int) := of_decide_eq_true (by with_reducible assumption)
             have hx5 := bt_at s0_0 x3_1
             replace p5 := eq_true p5
             replace q5 := eq_true q5
             go_wp2_with ((go_at_call 51; (with_reducible refine (strings_Contains.calls (⟨#[34, 92, 110, 116]⟩ : ByteArray) (s0_0.extract ((ji13) : Int).toNat ((wrap64 ((ji13) + 1)) : Int).toNat) false _ A17.out).mono ?_); rintro e w' ⟨rfl, ⟨nd, rfl⟩⟩))
             go_ret
             exact ⟨by rfl, by repeat ((with_reducible first | exact HI0.out | apply IsS82.drewN )), by repeat ((with_reducible first | exact HB.out | apply pw_below_drewN )), by repeat ((with_reducible first | exact HK.out | apply keep_drewN ))⟩
           ·rw [if_neg c16] at H
            exact absurd H (by simp)
          ·rw [if_neg c15] at H
           exact absurd H (by simp)
         ·rw [if_neg c14] at H
          exact absurd H (by simp)
       ·rw [if_neg c10] at H
        have c10b0 : ((bt s0_0 x3_1) == 92) = false := beq_eq_false_iff_ne.mpr c10
        have c10b1 : ((bt s0_0 x3_1) != 92) = true := bne_iff_ne.mpr c10
        have H' := Aside0.mk H
        clear H
        obtain ⟨HGz21, hgz21⟩ := HI0.out
        have hcz21_0 := cellS82_0 HGz21
        have hcz21_1 := cellS82_1 HGz21
        have hfz21_0 := blk_frozen HGz21 0
        have hfz21_1 := blk_frozen HGz21 1
        clear HGz21 hgz21
        have p5 : 0 ≤ (x3_1 : Int) := of_decide_eq_true (by with_reducible assumption)
        have q5 : x3_1 < (s0_0.size : Int) := of_decide_eq_true (by with_reducible assumption)
        have hx5 := bt_at s0_0 x3_1
        replace p5 := eq_true p5
        replace q5 := eq_true q5
        go_wp2
        go_roundg k1
        case measure => have := HK1.out; omega
        case rel => exact ⟨(wrap64 (x3_1 + 1)), (by rfl), H', ⟨by have := HK1.out; omega⟩, ⟨by repeat (with_reducible exact HI0.out)⟩, ⟨by repeat (with_reducible exact HK.out)⟩, ⟨by repeat (with_reducible exact HB.out)⟩⟩
    ·rw [if_neg c4] at H
     exact absurd H (by simp)
   ·rw [if_neg c3] at H
    have c3b0 : decide (x3_1 < (s0_0.size : Int)) = false := decide_eq_false c3
    clear c3
    simp only [Option.some.injEq, Prod.mk.injEq] at H
    obtain ⟨rfl, rfl, rfl⟩ := H
    obtain ⟨HGz22, hgz22⟩ := HI0.out
    have hcz22_0 := cellS82_0 HGz22
    have hcz22_1 := cellS82_1 HGz22
    have hfz22_0 := blk_frozen HGz22 0
    have hfz22_1 := blk_frozen HGz22 1
    clear HGz22 hgz22
    go_wp2
    go_ret
    exact ⟨by rfl, by repeat (with_reducible exact HI0.out), by repeat (with_reducible exact HB.out), by repeat (with_reducible exact HK.out)⟩

/-! ### lex_cursor_line_1: function 114 -/
def lex_cursor_line_1.f (a0 : Int) : Option (Bool) := some (a0 != 10)
set_option maxHeartbeats 8000000 in
set_option maxRecDepth 100000 in
theorem lex_cursor_line_1.calls (a0 : Int) (r : Bool) (w : World) (h : lex_cursor_line_1.f a0 = some r) :
  Calls Tryz.prog 114 #[.int .u8 a0] w fun e w' => e = .returned (.bool r) ∧ Drawn0 w w' := by
 have H : (some (a0 != 10)) = some r := h
 clear h
 obtain rfl := Option.some.inj H
 go_enter Tryz.func114, Tryz.ntmps114
 go_wp2
 go_ret
 exact ⟨by rfl, by repeat (exact Drawn0.refl _)⟩

/-! ### lex_cursor_run__lex_cursor_line_1: function 143 -/
def lex_cursor_run__lex_cursor_line_1.l0 : Nat → Int → ByteArray → Int → Option (Int × ByteArray × Int)
 | 0, _, _, _ => none
 | k + 1, x1, x1000, x1001 => if x1 < (x1000.size : Int) then (if 0 ≤ x1 then ((lex_cursor_line_1.f (bt x1000 x1)).bind fun t136 => (if t136 = true then (lex_cursor_run__lex_cursor_line_1.l0 k (wrap64 (x1 + 1)) x1000 x1001) else (some (x1, x1000, x1001)))) else (none)) else (some (x1, x1000, x1001))
def lex_cursor_run__lex_cursor_line_1.f (k : Nat) (s0_0 : ByteArray) (s0_1 : Int) (a1 : Int)  : Option (Int × ByteArray × Int) := lex_cursor_run__lex_cursor_line_1.l0 k a1 s0_0 s0_1
theorem lex_cursor_run__lex_cursor_line_1.mono_l : ∀ k, (∀ y0 y1 y2, LeO (lex_cursor_run__lex_cursor_line_1.l0 k y0 y1 y2) (lex_cursor_run__lex_cursor_line_1.l0 (k + 1) y0 y1 y2))
 | 0 => fun _ _ _ r h => by simp [lex_cursor_run__lex_cursor_line_1.l0] at h
 | k + 1 => by
  have ih0 := lex_cursor_run__lex_cursor_line_1.mono_l k
  ·intro y0 y1 y2
   unfold lex_cursor_run__lex_cursor_line_1.l0
   repeat' first
   | (with_reducible exact ih0 _ _ _)
   | (with_reducible exact LeO.refl _)
   | (with_reducible refine LeO.ite ?_ ?_)
   | (with_reducible refine LeO.bind ?_ (fun _ => ?_))
theorem lex_cursor_run__lex_cursor_line_1.mono : ∀ a0 a1 a2 k, LeO (lex_cursor_run__lex_cursor_line_1.f k a0 a1 a2) (lex_cursor_run__lex_cursor_line_1.f (k + 1) a0 a1 a2) := by
 intro a0 a1 a2 k
 have ih0 := lex_cursor_run__lex_cursor_line_1.mono_l k
 unfold lex_cursor_run__lex_cursor_line_1.f
 repeat' with_reducible exact ih0 _ _ _
set_option maxHeartbeats 8000000 in
set_option maxRecDepth 100000 in
theorem lex_cursor_run__lex_cursor_line_1.calls (k : Nat) (g : Nat) (s0_0 : ByteArray) (s0_1 : Int) (a1 : Int)  (r1 : Int) (r2 : ByteArray) (r3 : Int) (w0 w : World) (hI : IsS82 w0 w g s0_0 s0_1) (hB : Below w0.heap.size w0 w) (h : lex_cursor_run__lex_cursor_line_1.f k s0_0 s0_1 a1 = some (r1, r2, r3)) :
  Calls Tryz.prog 93 #[.pointer (some ⟨g, 0, none⟩), .int .i64 a1, .func (.func 114) #[] #[]] w fun e w' => e = .returned (.int .i64 r1) ∧ IsS82 w0 w' g r2 r3 ∧ Below w0.heap.size w0 w' ∧ KeepBut w w' g none := by
 have HI0 := Aside0.mk hI
 have HK := Aside0.mk (KeepBut.refl w g none)
 have HL := Aside0.mk hB.size
 clear hI
 have HW0 := Aside0.mk hB.size
 have HB := Aside0.mk hB
 clear hB
 have H : (lex_cursor_run__lex_cursor_line_1.l0 k a1 s0_0 s0_1) = some (r1, r2, r3) := h
 clear h
 have H' := Aside0.mk H
 clear H
 go_enter Tryz.func93, Tryz.ntmps93
 go_wp2
 go_loopg [1] k (fun kq v1 w' => ∃ (x1_1 : Int), v1 = .int .i64 x1_1 ∧ Aside0 (lex_cursor_run__lex_cursor_line_1.l0 kq x1_1 s0_0 s0_1 = some (r1, r2, r3)) ∧ Aside0 (kq ≤ k) ∧ Aside0 (IsS82 w0 w' g s0_0 s0_1) ∧ Aside0 (KeepBut w w' g none) ∧ Aside0 (Below w0.heap.size w0 w'))
 case atStart => exact ⟨(a1), (by rfl), H', ⟨Nat.le_refl _⟩, ⟨by repeat (with_reducible exact HI0.out)⟩, ⟨by repeat (with_reducible exact HK.out)⟩, ⟨by repeat (with_reducible exact HB.out)⟩⟩
 case round =>
  clear H'
  obtain ⟨x1_1, rfl, HA, HK1, HI0, HK, HB⟩ := hrel
  cases gk with
  | zero => exact absurd HA.out (by simp [lex_cursor_run__lex_cursor_line_1.l0])
  | succ k1 =>
   have H := HA.out
   clear HA
   simp only [lex_cursor_run__lex_cursor_line_1.l0] at H
   by_cases c4 : x1_1 < (s0_0.size : Int)
   ·rw [if_pos c4] at H
    have c4b0 : decide (x1_1 < (s0_0.size : Int)) = true := decide_eq_true c4
    clear c4
    by_cases c5 : 0 ≤ x1_1
    ·rw [if_pos c5] at H
     have c5b0 : decide (0 ≤ x1_1) = true := decide_eq_true c5
     clear c5
     replace H := Option.bind_eq_some_iff.mp H
     obtain ⟨t136, A70, H⟩ := H
     replace H : (if t136 = true then (lex_cursor_run__lex_cursor_line_1.l0 k1 (wrap64 (x1_1 + 1)) s0_0 s0_1) else (some (x1_1, s0_0, s0_1))) = some (r1, r2, r3) := H
     have A7 := Aside0.mk A70
     clear A70
     by_cases c8 : t136 = true
     ·subst c8
      have H1 : (lex_cursor_run__lex_cursor_line_1.l0 k1 (wrap64 (x1_1 + 1)) s0_0 s0_1) = some (r1, r2, r3) := by rw [if_pos rfl] at H; exact H
      clear H
      have H := H1
      clear H1
      have H' := Aside0.mk H
      clear H
      obtain ⟨HGz9, hgz9⟩ := HI0.out
      have hcz9_0 := cellS82_0 HGz9
      have hcz9_1 := cellS82_1 HGz9
      have hfz9_0 := blk_frozen HGz9 0
      have hfz9_1 := blk_frozen HGz9 1
      clear HGz9 hgz9
      have p6 : 0 ≤ (x1_1 : Int) := of_decide_eq_true (by with_reducible assumption)
      have q6 : x1_1 < (s0_0.size : Int) := of_decide_eq_true (by with_reducible assumption)
      have hx6 := bt_at s0_0 x1_1
      replace p6 := eq_true p6
      replace q6 := eq_true q6
      go_wp2_with ((go_at_call 114; (with_reducible refine (lex_cursor_line_1.calls (bt s0_0 x1_1) true _ A7.out).mono ?_); rintro e w' ⟨rfl, ⟨nd, rfl⟩⟩))
      go_roundg k1
      case measure => have := HK1.out; omega
      case rel => exact ⟨(wrap64 (x1_1 + 1)), (by rfl), H', ⟨by have := HK1.out; omega⟩, ⟨by repeat ((with_reducible first | exact HI0.out | apply IsS82.drewN ))⟩, ⟨by repeat ((with_reducible first | exact HK.out | apply keep_drewN ))⟩, ⟨by repeat ((with_reducible first | exact HB.out | apply pw_below_drewN ))⟩⟩
     ·replace c8 := Bool.eq_false_iff.mpr c8
      subst c8
      have H1 : (some (x1_1, s0_0, s0_1)) = some (r1, r2, r3) := by rw [if_neg (show ¬ (false = true) by decide)] at H; exact H
      clear H
      have H := H1
      clear H1
      simp only [Option.some.injEq, Prod.mk.injEq] at H
      obtain ⟨rfl, rfl, rfl⟩ := H
      obtain ⟨HGz10, hgz10⟩ := HI0.out
      have hcz10_0 := cellS82_0 HGz10
      have hcz10_1 := cellS82_1 HGz10
      have hfz10_0 := blk_frozen HGz10 0
      have hfz10_1 := blk_frozen HGz10 1
      clear HGz10 hgz10
      have p6 : 0 ≤ (x1_1 : Int) := of_decide_eq_true (by with_reducible assumption)
      have q6 : x1_1 < (s0_0.size : Int) := of_decide_eq_true (by with_reducible assumption)
      have hx6 := bt_at s0_0 x1_1
      replace p6 := eq_true p6
      replace q6 := eq_true q6
      go_wp2_with ((go_at_call 114; (with_reducible refine (lex_cursor_line_1.calls (bt s0_0 x1_1) false _ A7.out).mono ?_); rintro e w' ⟨rfl, ⟨nd, rfl⟩⟩))
      go_ret
      exact ⟨by rfl, by repeat ((with_reducible first | exact HI0.out | apply IsS82.drewN )), by repeat ((with_reducible first | exact HB.out | apply pw_below_drewN )), by repeat ((with_reducible first | exact HK.out | apply keep_drewN ))⟩
    ·rw [if_neg c5] at H
     exact absurd H (by simp)
   ·rw [if_neg c4] at H
    have c4b0 : decide (x1_1 < (s0_0.size : Int)) = false := decide_eq_false c4
    clear c4
    simp only [Option.some.injEq, Prod.mk.injEq] at H
    obtain ⟨rfl, rfl, rfl⟩ := H
    obtain ⟨HGz11, hgz11⟩ := HI0.out
    have hcz11_0 := cellS82_0 HGz11
    have hcz11_1 := cellS82_1 HGz11
    have hfz11_0 := blk_frozen HGz11 0
    have hfz11_1 := blk_frozen HGz11 1
    clear HGz11 hgz11
    go_wp2
    go_ret
    exact ⟨by rfl, by repeat (with_reducible exact HI0.out), by repeat (with_reducible exact HB.out), by repeat (with_reducible exact HK.out)⟩

/-! ### lex_cursor_line: function 97 -/
def lex_cursor_line.f (k : Nat) (s0_0 : ByteArray) (s0_1 : Int) : Option (Int × ByteArray × Int) := (lex_cursor_run__lex_cursor_line_1.f k s0_0 s0_1 s0_1).bind fun bt137 => (some (bt137.1, bt137.2.1, bt137.2.2))
theorem lex_cursor_line.mono : ∀ a0 a1 k, LeO (lex_cursor_line.f k a0 a1) (lex_cursor_line.f (k + 1) a0 a1) := by
 intro a0 a1 k
 unfold lex_cursor_line.f
 repeat' first
   | (with_reducible exact lex_cursor_run__lex_cursor_line_1.mono _ _ _ _)
   | (with_reducible exact LeO.refl _)
   | (with_reducible refine LeO.bind ?_ (fun _ => ?_))
set_option maxHeartbeats 8000000 in
set_option maxRecDepth 100000 in
theorem lex_cursor_line.calls (k : Nat) (g : Nat) (s0_0 : ByteArray) (s0_1 : Int) (r1 : Int) (r2 : ByteArray) (r3 : Int) (w0 w : World) (hI : IsS82 w0 w g s0_0 s0_1) (hB : Below w0.heap.size w0 w) (h : lex_cursor_line.f k s0_0 s0_1 = some (r1, r2, r3)) :
  Calls Tryz.prog 97 #[.pointer (some ⟨g, 0, none⟩)] w fun e w' => e = .returned (.int .i64 r1) ∧ IsS82 w0 w' g r2 r3 ∧ Below w0.heap.size w0 w' ∧ KeepBut w w' g none := by
 have HI0 := Aside0.mk hI
 have HK := Aside0.mk (KeepBut.refl w g none)
 have HL := Aside0.mk hB.size
 clear hI
 have HW0 := Aside0.mk hB.size
 have HB := Aside0.mk hB
 clear hB
 have H : ((lex_cursor_run__lex_cursor_line_1.f k s0_0 s0_1 s0_1).bind fun bt137 => (some (bt137.1, bt137.2.1, bt137.2.2))) = some (r1, r2, r3) := h
 clear h
 replace H := Option.bind_eq_some_iff.mp H
 obtain ⟨⟨t137, t138, t139⟩, A20, H⟩ := H
 replace H : (some (t137, t138, t139)) = some (r1, r2, r3) := H
 have A2 := Aside0.mk A20
 clear A20
 simp only [Option.some.injEq, Prod.mk.injEq] at H
 obtain ⟨rfl, rfl, rfl⟩ := H
 obtain ⟨HGz3, hgz3⟩ := HI0.out
 have hcz3_0 := cellS82_0 HGz3
 have hcz3_1 := cellS82_1 HGz3
 have hfz3_0 := blk_frozen HGz3 0
 have hfz3_1 := blk_frozen HGz3 1
 clear HGz3 hgz3
 go_enter Tryz.func97, Tryz.ntmps97
 go_wp2_with (((with_reducible refine gate_callee (f := 93) rfl ?_); refine goesL_ (some 8) rfl rfl Tryz.func93 (by kernel_rfl) rfl #[.pointer (some ⟨g, 0, none⟩), .int .i64 s0_1, .func (.func 114) #[] #[]] rfl (by (try simp only [List.map_toArray, List.map_cons, List.map_nil]); rfl) ?_; (with_reducible refine (lex_cursor_run__lex_cursor_line_1.calls k g s0_0 s0_1 s0_1  t137 t138 t139 w0 _ ?side1 ?side2 A2.out).mono ?_); (case side1 => repeat (with_reducible exact HI0.out)); (case side2 => repeat (with_reducible exact HB.out)); rintro e w4 ⟨rfl, hi, hb, hk⟩; refine ⟨_, rfl, ?_⟩; have n0_ := Aside0.mk (KeepBut.trans (by repeat (with_reducible exact HK.out)) hk (.inl rfl)); have n1_ := Aside0.mk (hb); have n2_ := Aside0.mk (hi); clear HK; clear HB; clear HI0; have HK := n0_; have HB := n1_; have HI0 := n2_; clear n0_ n1_ n2_; (try clear hb); (try clear hb2); (try clear hk); (try clear hi)))
 go_ret
 exact ⟨by rfl, by repeat (with_reducible exact HI0.out), by repeat (with_reducible exact HB.out), by repeat (with_reducible exact HK.out)⟩

/-! ### lex_digit: function 98 -/
def lex_digit.f (a0 : Int) : Option (Bool) := if a0 ≥ 48 then (some (decide (a0 ≤ 57))) else (some false)
set_option maxHeartbeats 8000000 in
set_option maxRecDepth 100000 in
theorem lex_digit.calls (a0 : Int) (r : Bool) (w : World) (h : lex_digit.f a0 = some r) :
  Calls Tryz.prog 98 #[.int .u8 a0] w fun e w' => e = .returned (.bool r) ∧ Drawn0 w w' := by
 have H : (if a0 ≥ 48 then (some (decide (a0 ≤ 57))) else (some false)) = some r := h
 clear h
 by_cases c2 : a0 ≥ 48
 ·rw [if_pos c2] at H
  have c2b0 : decide (48 ≤ a0) = true := decide_eq_true c2
  clear c2
  obtain rfl := Option.some.inj H
  go_enter Tryz.func98, Tryz.ntmps98
  go_wp2
  go_ret
  exact ⟨by rfl, by repeat (exact Drawn0.refl _)⟩
 ·rw [if_neg c2] at H
  have c2b0 : decide (48 ≤ a0) = false := decide_eq_false c2
  clear c2
  obtain rfl := Option.some.inj H
  go_enter Tryz.func98, Tryz.ntmps98
  go_wp2
  go_ret
  exact ⟨by rfl, by repeat (exact Drawn0.refl _)⟩

/-! ### lex_rest: function 99 -/
def lex_rest.f (k : Nat) (a0 : Int) : Option (Bool) := (some (([a0] : List Int) : List Int)).bind fun y140 => (if 1 + (strOfNums y140).size ≤ 9223372036854775807 then ((name_Kind.f k ((⟨#[97]⟩ : ByteArray) ++ (strOfNums y140))).bind fun t143 => (some (t143 != 0))) else (none))
theorem lex_rest.mono : ∀ a0 k, LeO (lex_rest.f k a0) (lex_rest.f (k + 1) a0) := by
 intro a0 k
 unfold lex_rest.f
 repeat' first
   | (with_reducible exact name_Kind.mono _ _)
   | (with_reducible exact LeO.refl _)
   | (with_reducible refine LeO.ite ?_ ?_)
   | (with_reducible refine LeO.bind ?_ (fun _ => ?_))
set_option maxHeartbeats 8000000 in
set_option maxRecDepth 100000 in
theorem lex_rest.calls (k : Nat) (a0 : Int) (r : Bool) (w : World) (h : lex_rest.f k a0 = some r) :
  Calls Tryz.prog 99 #[.int .u8 a0] w fun e w' => e = .returned (.bool r) ∧ Below w.heap.size w w' := by
 have HB := Aside0.mk (Below.refl w.heap.size w)
 have H : ((some (([a0] : List Int) : List Int)).bind fun y140 => (if 1 + (strOfNums y140).size ≤ 9223372036854775807 then ((name_Kind.f k ((⟨#[97]⟩ : ByteArray) ++ (strOfNums y140))).bind fun t143 => (some (t143 != 0))) else (none))) = some r := h
 clear h
 obtain ⟨y140, hy140⟩ : ∃ y_ : List Int, y_ = (([a0] : List Int)) := ⟨_, rfl⟩
 replace H : (if 1 + (strOfNums y140).size ≤ 9223372036854775807 then ((name_Kind.f k ((⟨#[97]⟩ : ByteArray) ++ (strOfNums y140))).bind fun t143 => (some (t143 != 0))) else (none)) = some r := by (have H2_ := (Option.bind_some _ _).symm.trans H; rw [hy140]; with_reducible exact H2_)
 have Ny140 := Aside0.mk hy140
 clear hy140
 by_cases c2 : 1 + (strOfNums y140).size ≤ 9223372036854775807
 ·rw [if_pos c2] at H
  have c2b0 := eq_true c2
  have c2b1 : decide (1 + (strOfNums y140).size ≤ 9223372036854775807) = true := decide_eq_true c2
  try have c2b2 : (9223372036854775807 < 1 + (strOfNums y140).size) = False := eq_false (Nat.not_lt.2 c2)
  replace H := Option.bind_eq_some_iff.mp H
  obtain ⟨t143, A30, H⟩ := H
  replace H : (some (t143 != 0)) = some r := H
  have A3 := Aside0.mk A30
  clear A30
  obtain rfl := Option.some.inj H
  go_enter Tryz.func99, Tryz.ntmps99
  go_wp2_with (first | ((with_reducible refine gate_dst (N := 4) rfl ?_); refine Kd.R_lit (Kd.int .u8) _ 5 ?hg (N := 4) ?hd (xs := ([a0] : List Int)) (inner := [.int .u8 a0]) (ok := fun _ => True) (okp := fun _ => True) ?hr ?hp (fun _ hk => hk) trivial (Below.refl _ _) (Nat.le_refl _) (by simp) ?_; (case hd => rfl); (case hg => rfl); (case hr => (go_simp; done)); (case hp => exact (Reps.one (show Kd.M (Kd.int .u8) _ _ _ a0 [.int .u8 a0] from rfl) (Reps.none _ _))); intro v141 w4 ho5 hb hg_ hnew_; clear hg_ hnew_; (rw [← Ny140.out] at ho5); have n0_ := Aside0.mk (Kd.R_lower ho5 (below_size (by repeat (with_reducible exact HB.out)))); have n1_ := Aside0.mk (below_step (by repeat (with_reducible exact HB.out)) hb); clear HB; have HO142 := n0_; have HB := n1_; clear n0_ n1_; clear hb ho5; have hcv6 := own_string (P := Tryz.prog) Tryz.underlying69 Tryz.underlying5 Tryz.underlying9 (Kd.own_of_R HO142.out)) | ((with_reducible refine gate_callee (f := 15) rfl ?_); refine goesL_ (some 7) rfl rfl Tryz.func15 (by kernel_rfl) rfl #[.string ((⟨#[97]⟩ : ByteArray) ++ (strOfNums y140))] rfl (by (try simp only [List.map_toArray, List.map_cons, List.map_nil]); rfl) ?_; (with_reducible refine (name_Kind.calls k ((⟨#[97]⟩ : ByteArray) ++ (strOfNums y140)) t143 _ A3.out).mono ?_); rintro e w7 ⟨rfl, hb⟩; refine ⟨_, rfl, ?_⟩; have n0_ := Aside0.mk (Kd.R_below (by (with_reducible repeat (fail)); exact HO142.out) hb); have n1_ := Aside0.mk (below_step (by repeat (with_reducible exact HB.out)) hb); clear HO142; clear HB; have HO142 := n0_; have HB := n1_; clear n0_ n1_; (try clear hb); (try clear hb2); (try clear hk); (try clear hi)))
  go_ret
  exact ⟨by rfl, by repeat (with_reducible exact HB.out)⟩
 ·rw [if_neg c2] at H
  exact absurd H (by simp)

/-! ### lex_sign: function 100 -/
def lex_sign.f (k : Nat) (a0 : Int) : Option (Bool) := (some (([a0] : List Int) : List Int)).bind fun y144 => (if 1 + (strOfNums y144).size ≤ 9223372036854775807 then ((name_Kind.f k ((⟨#[43]⟩ : ByteArray) ++ (strOfNums y144))).bind fun t147 => (some (t147 == 9))) else (none))
theorem lex_sign.mono : ∀ a0 k, LeO (lex_sign.f k a0) (lex_sign.f (k + 1) a0) := by
 intro a0 k
 unfold lex_sign.f
 repeat' first
   | (with_reducible exact name_Kind.mono _ _)
   | (with_reducible exact LeO.refl _)
   | (with_reducible refine LeO.ite ?_ ?_)
   | (with_reducible refine LeO.bind ?_ (fun _ => ?_))
set_option maxHeartbeats 8000000 in
set_option maxRecDepth 100000 in
theorem lex_sign.calls (k : Nat) (a0 : Int) (r : Bool) (w : World) (h : lex_sign.f k a0 = some r) :
  Calls Tryz.prog 100 #[.int .u8 a0] w fun e w' => e = .returned (.bool r) ∧ Below w.heap.size w w' := by
 have HB := Aside0.mk (Below.refl w.heap.size w)
 have H : ((some (([a0] : List Int) : List Int)).bind fun y144 => (if 1 + (strOfNums y144).size ≤ 9223372036854775807 then ((name_Kind.f k ((⟨#[43]⟩ : ByteArray) ++ (strOfNums y144))).bind fun t147 => (some (t147 == 9))) else (none))) = some r := h
 clear h
 obtain ⟨y144, hy144⟩ : ∃ y_ : List Int, y_ = (([a0] : List Int)) := ⟨_, rfl⟩
 replace H : (if 1 + (strOfNums y144).size ≤ 9223372036854775807 then ((name_Kind.f k ((⟨#[43]⟩ : ByteArray) ++ (strOfNums y144))).bind fun t147 => (some (t147 == 9))) else (none)) = some r := by (have H2_ := (Option.bind_some _ _).symm.trans H; rw [hy144]; with_reducible exact H2_)
 have Ny144 := Aside0.mk hy144
 clear hy144
 by_cases c2 : 1 + (strOfNums y144).size ≤ 9223372036854775807
 ·rw [if_pos c2] at H
  have c2b0 := eq_true c2
  have c2b1 : decide (1 + (strOfNums y144).size ≤ 9223372036854775807) = true := decide_eq_true c2
  try have c2b2 : (9223372036854775807 < 1 + (strOfNums y144).size) = False := eq_false (Nat.not_lt.2 c2)
  replace H := Option.bind_eq_some_iff.mp H
  obtain ⟨t147, A30, H⟩ := H
  replace H : (some (t147 == 9)) = some r := H
  have A3 := Aside0.mk A30
  clear A30
  obtain rfl := Option.some.inj H
  go_enter Tryz.func100, Tryz.ntmps100
  go_wp2_with (first | ((with_reducible refine gate_dst (N := 4) rfl ?_); refine Kd.R_lit (Kd.int .u8) _ 5 ?hg (N := 4) ?hd (xs := ([a0] : List Int)) (inner := [.int .u8 a0]) (ok := fun _ => True) (okp := fun _ => True) ?hr ?hp (fun _ hk => hk) trivial (Below.refl _ _) (Nat.le_refl _) (by simp) ?_; (case hd => rfl); (case hg => rfl); (case hr => (go_simp; done)); (case hp => exact (Reps.one (show Kd.M (Kd.int .u8) _ _ _ a0 [.int .u8 a0] from rfl) (Reps.none _ _))); intro v145 w4 ho5 hb hg_ hnew_; clear hg_ hnew_; (rw [← Ny144.out] at ho5); have n0_ := Aside0.mk (Kd.R_lower ho5 (below_size (by repeat (with_reducible exact HB.out)))); have n1_ := Aside0.mk (below_step (by repeat (with_reducible exact HB.out)) hb); clear HB; have HO146 := n0_; have HB := n1_; clear n0_ n1_; clear hb ho5; have hcv6 := own_string (P := Tryz.prog) Tryz.underlying69 Tryz.underlying5 Tryz.underlying9 (Kd.own_of_R HO146.out)) | ((with_reducible refine gate_callee (f := 15) rfl ?_); refine goesL_ (some 7) rfl rfl Tryz.func15 (by kernel_rfl) rfl #[.string ((⟨#[43]⟩ : ByteArray) ++ (strOfNums y144))] rfl (by (try simp only [List.map_toArray, List.map_cons, List.map_nil]); rfl) ?_; (with_reducible refine (name_Kind.calls k ((⟨#[43]⟩ : ByteArray) ++ (strOfNums y144)) t147 _ A3.out).mono ?_); rintro e w7 ⟨rfl, hb⟩; refine ⟨_, rfl, ?_⟩; have n0_ := Aside0.mk (Kd.R_below (by (with_reducible repeat (fail)); exact HO146.out) hb); have n1_ := Aside0.mk (below_step (by repeat (with_reducible exact HB.out)) hb); clear HO146; clear HB; have HO146 := n0_; have HB := n1_; clear n0_ n1_; (try clear hb); (try clear hb2); (try clear hk); (try clear hi)))
  go_ret
  exact ⟨by rfl, by repeat (with_reducible exact HB.out)⟩
 ·rw [if_neg c2] at H
  exact absurd H (by simp)

end Go.Proofs.YtfccifekaokibaaGreatDoor.QT

