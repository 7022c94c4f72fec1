-- Laid by this claim's own program (mprint.py in the repo).
import Derived.Test.YtnlbmnlmfbihlaaDoorQCx0
import Derived.Test.YtnlbmnlmfbihlaaDoorQCx1
namespace Go.Proofs.YtnlbmnlmfbihlaaDoor.QC
open Go.RowKit Go.Proofs.YtnlbmnlmfbihlaaDoorW.PrintWords Go.Proofs.YtnlbmnlmfbihlaaDoorW.PrintLast Go.Proofs.YtnlbmnlmfbihlaaDoorW.PrintMore
attribute [local go_sem] max2_int min2_int max_two min_two max_three min_three max_four min_four   -- for this text's walks alone
set_option linter.unusedVariables false
set_option linter.unusedSimpArgs false

/-! ### report_Unquote: function 8 -/
theorem bld_keepF {B b : Nat} {bs : List Value} {w w1 : World} (h : Lib.IsBuilderF 39 5 B b bs w) (hb : Below w.heap.size w w1) : Lib.IsBuilderF 39 5 B b bs w1 := by
  rcases h with h | h
  · have hlt := h.lt
    obtain ⟨hB, v, hbk, hown, hne⟩ := h
    exact .inl ⟨hB, v, (hb.block b hlt).trans hbk, hown.kept (row := none) (grown_of_below hb none) (by rcases hv : v.ownBlock with _ | q <;> simp), hne⟩
  · have hlt := h.lt
    obtain ⟨hB, v, hbk, hown, hne⟩ := h
    exact .inr ⟨hB, v, (hb.block b hlt).trans hbk, hown.kept (row := none) (grown_of_below hb none) (by rcases hv : v.ownBlock with _ | q <;> simp), hne⟩
theorem bld_lt {w0 : World} {b : Nat} {l : List UInt8} {w : World} (h : Bld w0 b l w) : b < w.heap.size := by
  rcases h.1 with h | h
  · exact h.lt
  · exact h.lt
theorem bld_keep {w0 : World} {b : Nat} {l : List UInt8} {w w1 : World} (h : Bld w0 b l w) (hd : Drawn0 w w1) : Bld w0 b l w1 := by
  obtain ⟨n, rfl⟩ := hd.out
  exact ⟨h.1, pw_below_drewN h.2 n⟩
def report_Unquote.l : Nat → ByteArray → List UInt8 → Option (Option (List UInt8))
  | 0, _, _ => none
  | k + 1, s, acc => if s.size = 0 then some (some acc) else (report_one.f k s).bind fun cn => if cn.2 = 0 then some none else
      if 0 ≤ cn.2 ∧ cn.2 ≤ (s.size : Int) ∧ 0 ≤ cn.1 ∧ cn.1 ≤ 255 ∧ acc.length < 1000000 then report_Unquote.l k (s.extract cn.2.toNat s.size) (acc ++ [cn.1.toNat.toUInt8]) else none
def report_Unquote.f (k : Nat) (s : ByteArray) : Option (ByteArray × Bool) := if (s.size : Int) < 2 ∨ bt s 0 ≠ 34 ∨ bt s ((s.size : Int) - 1) ≠ 34 ∨ 1000000 < s.size then (if 1000000 < s.size then none else some (⟨#[]⟩, false)) else
  (report_Unquote.l k (s.extract 1 (s.size - 1)) []).bind fun o => match o with
    | none => some (⟨#[]⟩, false)
    | some acc => (report_Quote.f ⟨acc.toArray⟩).bind fun q => if q.toList == s.toList then some (⟨acc.toArray⟩, true) else some (⟨#[]⟩, false)
theorem report_Unquote.mono_l : ∀ k, (∀ y0 y1, LeO (report_Unquote.l k y0 y1) (report_Unquote.l (k + 1) y0 y1))
  | 0 => fun _ _ r h => by simp [report_Unquote.l] at h
  | k + 1 => by
    have ih0 := report_Unquote.mono_l k
    intro y0 y1
    unfold report_Unquote.l
    exact LeO.ite (LeO.refl _) (LeO.bind (report_one.mono _ _) (fun _ => LeO.ite (LeO.refl _) (LeO.ite (ih0 _ _) (LeO.none _))))
theorem report_Unquote.mono : ∀ a0 k, LeO (report_Unquote.f k a0) (report_Unquote.f (k + 1) a0) := by
  intro a0 k
  unfold report_Unquote.f
  exact LeO.ite (LeO.refl _) (LeO.bind (report_Unquote.mono_l _ _ _) (fun _ => LeO.refl _))
set_option maxHeartbeats 4000000 in
set_option maxRecDepth 100000 in
theorem report_Unquote.short (a0 : ByteArray) (w : World) (hz : a0.size ≤ 1000000) (h : (a0.size : Int) < 2 ∨ bt a0 0 ≠ 34 ∨ bt a0 ((a0.size : Int) - 1) ≠ 34) :
    Calls Tryd.prog 8 #[.string a0] w fun e w' => e = .returned (.tuple #[.string ⟨#[]⟩, .bool false]) ∧ Below w.heap.size w w' := by
  by_cases h1 : (a0.size : Int) < 2
  · have c0 : decide ((a0.size : Int) < 2) = true := decide_eq_true h1
    have c1 : decide (a0.size < 2) = true := decide_eq_true (by omega)
    clear h1 h
    go_enter Tryd.func8, Tryd.ntmps8
    go_wp2
    go_ret2
    exact ⟨rfl, Below.refl _ _⟩
  · have c0 : decide ((a0.size : Int) < 2) = false := decide_eq_false h1
    have c1 : decide (a0.size < 2) = false := decide_eq_false (by omega)
    have hs : 0 < a0.size := by omega
    have hb0 : ∀ h : 0 < a0.size, ((a0[0]'h).toNat : Int) = bt a0 0 := bt_at a0 0
    by_cases h2 : bt a0 0 ≠ 34
    · have c2 : (((a0[0]'hs).toNat : Int) != 34) = true := by rw [hb0]; exact bne_iff_ne.2 h2
      clear h1 h2 h hb0
      have hsz : (0 : Int) < (a0.size : Int) := by omega
      go_enter Tryd.func8, Tryd.ntmps8
      go_wp2
      go_ret2
      exact ⟨rfl, Below.refl _ _⟩
    · have c2 : (((a0[0]'hs).toNat : Int) != 34) = false := by rw [hb0]; exact bne_eq_false_iff_eq.2 (by omega)
      have h3 : bt a0 ((a0.size : Int) - 1) ≠ 34 := by omega
      have hb1 : ∀ h : a0.size - 1 < a0.size, ((a0[a0.size - 1]'h).toNat : Int) = bt a0 ((a0.size : Int) - 1) := fun h => by
        have := bt_at a0 ((a0.size : Int) - 1)
        simp only [show ((a0.size : Int) - 1).toNat = a0.size - 1 by omega] at this
        exact this h
      have c3 : (((a0[a0.size - 1]'(by omega)).toNat : Int) != 34) = true := by rw [hb1]; exact bne_iff_ne.2 h3
      clear h2 h h3 hb0 hb1
      have hsz : (1 : Int) ≤ (a0.size : Int) := by omega
      go_enter Tryd.func8, Tryd.ntmps8
      go_wp2
      go_ret2
      exact ⟨rfl, Below.refl _ _⟩

set_option maxHeartbeats 4000000 in
set_option maxRecDepth 100000 in
theorem report_Unquote.calls (k : Nat) (a0 : ByteArray) (r1 : ByteArray) (r2 : Bool) (w : World) (h : report_Unquote.f k a0 = some (r1, r2)) :
    Calls Tryd.prog 8 #[.string a0] w fun e w' => e = .returned (.tuple #[.string r1, .bool r2]) ∧ Below w.heap.size w w' := by
  unfold report_Unquote.f at h
  by_cases hc : (a0.size : Int) < 2 ∨ bt a0 0 ≠ 34 ∨ bt a0 ((a0.size : Int) - 1) ≠ 34 ∨ 1000000 < a0.size
  · rw [if_pos hc] at h
    split at h
    · cases h
    · rename_i hz
      simp only [Option.some.injEq, Prod.mk.injEq] at h
      obtain ⟨rfl, rfl⟩ := h
      exact report_Unquote.short a0 w (by omega) (by omega)
  · rw [if_neg hc] at h
    obtain ⟨o, hL, h⟩ := Option.bind_eq_some_iff.mp h
    have hs : 0 < a0.size := by omega
    have hz : a0.size ≤ 1000000 := by omega
    have HL := Aside0.mk hL
    have HR := Aside0.mk h
    clear hL h
    have c0 : decide ((a0.size : Int) < 2) = false := decide_eq_false (by omega)
    have c1 : decide (a0.size < 2) = false := decide_eq_false (by omega)
    have hb0 : ∀ h : 0 < a0.size, ((a0[0]'h).toNat : Int) = bt a0 0 := bt_at a0 0
    have hb1 : ∀ h : a0.size - 1 < a0.size, ((a0[a0.size - 1]'h).toNat : Int) = bt a0 ((a0.size : Int) - 1) := fun h => by
      have := bt_at a0 ((a0.size : Int) - 1)
      simp only [show ((a0.size : Int) - 1).toNat = a0.size - 1 by omega] at this
      exact this h
    have hs1 : a0.size - 1 < a0.size := by omega
    have c2 : (((a0[0]'hs).toNat : Int) != 34) = false := by rw [hb0]; exact bne_eq_false_iff_eq.2 (by omega)
    have c3 : (((a0[a0.size - 1]'hs1).toNat : Int) != 34) = false := by rw [hb1]; exact bne_eq_false_iff_eq.2 (by omega)
    clear hb0 hb1
    have hsz : (2 : Int) ≤ (a0.size : Int) := by omega
    clear hc
    have HN : Bld w w.heap.size [] (w.alloc (.cells #[.pointer none, .slice none 0 0] 39)) := ⟨Lib.fresh_isBuilder _ _ _, (Below.refl _ _).alloc (Nat.le_refl _) _⟩
    have H0 := Lib.hid HN
    clear HN
    go_enter Tryd.func8, Tryd.ntmps8
    go_wp2
    go_loopg [5, 6, 7] k (fun kq v5 _ _ wr => ∃ (s : ByteArray) (acc : List UInt8), v5 = .string s ∧ s.size ≤ 1000000 ∧ Aside0 (report_Unquote.l kq s acc = some o) ∧ Aside0 (Bld w w.heap.size acc wr))
    case atStart => exact ⟨_, [], rfl, by rw [ByteArray.size_extract]; omega, HL, ⟨H0.out⟩⟩
    case round =>
      clear HL H0 c0 c1 c2 c3
      obtain ⟨s, acc, rfl, hsl, HA, HB⟩ := hrel
      cases gk with
      | zero => exact absurd HA.out (by simp [report_Unquote.l])
      | succ k1 =>
      have H := HA.out
      clear HA
      simp only [report_Unquote.l] at H
      by_cases hz0 : s.size = 0
      · rw [if_pos hz0] at H
        obtain rfl := Option.some.inj H
        have es : s = ⟨#[]⟩ := by
          obtain ⟨⟨l⟩⟩ := s
          have hl : l.length = 0 := hz0
          rw [List.length_eq_zero_iff] at hl
          rw [hl]
        subst es
        clear H hz0 hsl
        have HR := HR.out
        dsimp only at HR
        obtain ⟨q, hq, HR⟩ := Option.bind_eq_some_iff.mp HR
        have HQ := Aside0.mk hq
        clear hq
        by_cases he : (q.toList == a0.toList) = true
        · rw [if_pos he] at HR
          simp only [Option.some.injEq, Prod.mk.injEq] at HR
          obtain ⟨rfl, rfl⟩ := HR
          go_wp2_with fail
          refine (Tryd.Builder_String_any_f w.heap.size w.heap.size acc wr (Lib.IsBuilderF.of HB.out.1) HB.out.2.size).mono ?_
          rintro e w1 ⟨rfl, hF, hb⟩
          have HF := Aside0.mk hF
          have HB1 := Aside0.mk (HB.out.2.trans hb)
          clear hF hb
          go_wp2_with fail
          refine (report_Quote.calls _ q _ HQ.out).mono ?_
          rintro e w2 ⟨rfl, hb⟩
          have HF2 := Aside0.mk (bld_keepF HF.out hb)
          have HB2 := Aside0.mk (below_then HB1.out HB1.out.size hb)
          clear hb
          go_wp2_with fail
          refine (Tryd.Builder_String_any_f w.heap.size w.heap.size acc w2 HF2.out HB2.out.size).mono ?_
          rintro e w3 ⟨rfl, hF, hb⟩
          have HB3 := Aside0.mk (HB2.out.trans hb)
          clear hF hb
          go_wp2
          go_ret2
          exact ⟨rfl, HB3.out⟩
        · have he' : (q.toList == a0.toList) = false := by rw [← Bool.not_eq_true]; exact he
          rw [if_neg he] at HR
          simp only [Option.some.injEq, Prod.mk.injEq] at HR
          obtain ⟨rfl, rfl⟩ := HR
          clear he
          go_wp2_with fail
          refine (Tryd.Builder_String_any_f w.heap.size w.heap.size acc wr (Lib.IsBuilderF.of HB.out.1) HB.out.2.size).mono ?_
          rintro e w1 ⟨rfl, hF, hb⟩
          have HB1 := Aside0.mk (HB.out.2.trans hb)
          clear hF hb
          go_wp2_with fail
          refine (report_Quote.calls _ q _ HQ.out).mono ?_
          rintro e w2 ⟨rfl, hb⟩
          have HB2 := Aside0.mk (below_then HB1.out HB1.out.size hb)
          clear hb
          go_wp2
          go_ret2
          exact ⟨rfl, HB2.out⟩
      · rw [if_neg hz0] at H
        obtain ⟨⟨c, n⟩, h1, H⟩ := Option.bind_eq_some_iff.mp H
        dsimp only at H
        have H1 := Aside0.mk h1
        clear h1
        have hne : ¬ s.toList = [] := fun e => hz0 (by
          have : s.data.toList.length = s.toList.length := by rw [ByteArray.toList_eq]
          rw [e] at this
          rw [← data_length s]
          exact this)
        have e0 : s.toList.isEmpty = false := by rw [List.isEmpty_eq_false_iff]; exact hne
        have e1 : (s.toList == []) = false := by rw [beq_eq_false_iff_ne]; exact hne
        have e2 : (s.toList != []) = true := by rw [bne_iff_ne]; exact hne
        by_cases hn : n = 0
        · rw [if_pos hn] at H
          subst hn
          obtain rfl := Option.some.inj H
          have HR := HR.out
          simp only [Option.some.injEq, Prod.mk.injEq] at HR
          obtain ⟨rfl, rfl⟩ := HR
          clear H
          go_wp2_with fail
          refine (report_one.calls k1 s c 0 _ H1.out).mono ?_
          rintro e w1 ⟨rfl, ⟨m, rfl⟩⟩
          go_wp2
          go_ret2
          exact ⟨rfl, pw_below_drewN HB.out.2 _⟩
        · rw [if_neg hn] at H
          by_cases hr : 0 ≤ n ∧ n ≤ (s.size : Int) ∧ 0 ≤ c ∧ c ≤ 255 ∧ acc.length < 1000000
          · rw [if_pos hr] at H
            obtain ⟨p1, p2, p3, p4, p5⟩ := hr
            obtain ⟨cb, rfl⟩ : ∃ cb : UInt8, c = (cb.toNat : Int) := ⟨c.toNat.toUInt8, by
              have : c.toNat.toUInt8.toNat = c.toNat := by rw [Nat.toUInt8, UInt8.toNat_ofNat']; omega
              rw [this]; omega⟩
            have ecb : ((cb.toNat : Int)).toNat.toUInt8 = cb := by simp
            rw [ecb] at H
            have en : (n == 0) = false := beq_eq_false_iff_ne.2 hn
            have HX := Aside0.mk H
            clear H ecb hn
            go_wp2_with fail
            refine (report_one.calls k1 s _ n _ H1.out).mono ?_
            rintro e w1 ⟨rfl, hd⟩
            have HB1 := Aside0.mk (bld_keep HB.out hd)
            clear hd
            go_wp2_with fail
            refine (bld_byte w w.heap.size acc cb _ HB1.out (by omega)).mono ?_
            rintro e w2 ⟨rfl, hb⟩
            have HB2 := Aside0.mk hb
            clear hb
            go_wp2
            go_roundg k1
            case measure => omega
            case rel => exact ⟨_, acc ++ [cb], rfl, by rw [ByteArray.size_extract]; omega, HX, HB2⟩
          · rw [if_neg hr] at H
            cases H



/-! ### strings_Count: function 28 -/
def strings_Count.g (s : ByteArray) : List UInt8 → Option Int
  | [c] => some ((Lib.countByte s.data.toList c : Nat) : Int)
  | _ => none
def strings_Count.f (a0 : ByteArray) (a1 : ByteArray) : Option (Int) := strings_Count.g a0 a1.data.toList
theorem strings_Count.calls (a0 : ByteArray) (a1 : ByteArray) (r : Int) (w : World) (h : strings_Count.f a0 a1 = some r) :
    Calls Tryd.prog 28 #[.string a0, .string a1] w fun e w' => e = .returned (.int .i64 r) ∧ Drawn0 w w' := by
  unfold strings_Count.f at h
  obtain ⟨⟨l⟩⟩ := a1
  dsimp only at h
  rcases l with _ | ⟨c, _ | ⟨d, l⟩⟩
  · cases h
  · obtain rfl := Option.some.inj h
    refine (Tryd.strings_Count_one a0 _ w).mono ?_
    rintro e w' ⟨rfl, rfl⟩
    exact ⟨rfl, Drawn0.refl _⟩
  · cases h



/-! ### text_Lines: function 23 -/
def text_Lines.f (a0 : ByteArray) : Option (Int) := (strings_Count.f a0 (⟨#[10]⟩ : ByteArray)).bind fun t103 => (some (wrap64 (t103 + 1)))
set_option maxHeartbeats 8000000 in
set_option maxRecDepth 100000 in
theorem text_Lines.calls (a0 : ByteArray) (r : Int) (w : World) (h : text_Lines.f a0 = some r) :
    Calls Tryd.prog 23 #[.string a0] w fun e w' => e = .returned (.int .i64 r) ∧ Drawn0 w w' := by
  have H : ((strings_Count.f a0 (⟨#[10]⟩ : ByteArray)).bind fun t103 => (some (wrap64 (t103 + 1)))) = some r := h
  clear h
  replace H := Option.bind_eq_some_iff.mp H
  obtain ⟨t103, A20, H⟩ := H
  replace H : (some (wrap64 (t103 + 1))) = some r := H
  have A2 := Aside0.mk A20
  clear A20
  obtain rfl := Option.some.inj H
  go_enter Tryd.func23, Tryd.ntmps23
  go_wp2_with (first | ((with_reducible refine gate_callee (f := 28) rfl ?_); refine goesL_ (some 4) rfl rfl Tryd.func28 (by kernel_rfl) rfl #[.string a0, .string (⟨#[10]⟩ : ByteArray)] rfl (by (try simp only [List.map_toArray, List.map_cons, List.map_nil]); first | done | rfl | (simp only [List.length_drop, List.length_take]; rfl)) ?_; (with_reducible refine (strings_Count.calls a0 (⟨#[10]⟩ : ByteArray) t103 _ A2.out).mono ?_); rintro e w' ⟨rfl, ⟨nd, rfl⟩⟩; refine ⟨_, rfl, ?_⟩))
  go_ret
  exact ⟨by first | rfl | (simp; done) | (simp [*]; done), by repeat (first | exact Drawn0.refl _ | apply Drawn0.step)⟩

/-! ### strings_LastIndexByte: function 29 -/
def strings_LastIndexByte.f (a0 : ByteArray) (a1 : Int) : Option (Int) := if a0.size < 4611686018427387904 then some (Lib.lastIndexByte a0 a1) else none
theorem strings_LastIndexByte.calls (a0 : ByteArray) (a1 : Int) (r : Int) (w : World) (h : strings_LastIndexByte.f a0 a1 = some r) :
    Calls Tryd.prog 29 #[.string a0, .int .u8 a1] w fun e w' => e = .returned (.int .i64 r) ∧ Drawn0 w w' := by
  unfold strings_LastIndexByte.f at h
  split at h
  case isFalse => cases h
  case isTrue hs =>
  obtain rfl := Option.some.inj h
  refine (Tryd.strings_LastIndexByte a0 a1 hs w).mono ?_
  rintro e w' ⟨rfl, rfl⟩
  exact ⟨rfl, Drawn0.refl _⟩



/-! ### text_begin: function 24 -/
def text_begin.f (a0 : ByteArray) (a1 : Int) : Option (Int) := if 0 ≤ a1 then (if a1 ≤ (a0.size : Int) then ((strings_LastIndexByte.f (a0.extract 0 (a1 : Int).toNat) 10).bind fun t104 => (some (wrap64 (t104 + 1)))) else (none)) else (none)
set_option maxHeartbeats 8000000 in
set_option maxRecDepth 100000 in
theorem text_begin.calls (a0 : ByteArray) (a1 : Int) (r : Int) (w : World) (h : text_begin.f a0 a1 = some r) :
    Calls Tryd.prog 24 #[.string a0, .int .i64 a1] w fun e w' => e = .returned (.int .i64 r) ∧ Drawn0 w w' := by
  have H : (if 0 ≤ a1 then (if a1 ≤ (a0.size : Int) then ((strings_LastIndexByte.f (a0.extract 0 (a1 : Int).toNat) 10).bind fun t104 => (some (wrap64 (t104 + 1)))) else (none)) else (none)) = some r := h
  clear h
  by_cases c3 : 0 ≤ a1
  · rw [if_pos c3] at H
    have c3b0 := eq_true c3
    have c3b1 : decide (0 ≤ a1) = true := decide_eq_true c3
    clear c3
    by_cases c4 : a1 ≤ (a0.size : Int)
    · rw [if_pos c4] at H
      have c4b0 := eq_true c4
      have c4b1 : decide (a1 ≤ (a0.size : Int)) = true := decide_eq_true c4
      clear c4
      replace H := Option.bind_eq_some_iff.mp H
      obtain ⟨t104, A50, H⟩ := H
      replace H : (some (wrap64 (t104 + 1))) = some r := H
      have A5 := Aside0.mk A50
      clear A50
      obtain rfl := Option.some.inj H
      go_enter Tryd.func24, Tryd.ntmps24
      go_wp2_with (first | ((with_reducible refine gate_callee (f := 29) rfl ?_); refine goesL_ (some 8) rfl rfl Tryd.func29 (by kernel_rfl) rfl #[.string (a0.extract 0 (a1 : Int).toNat), .int .u8 10] rfl (by (try simp only [List.map_toArray, List.map_cons, List.map_nil]); first | done | rfl | (simp only [List.length_drop, List.length_take]; rfl)) ?_; (with_reducible refine (strings_LastIndexByte.calls (a0.extract 0 (a1 : Int).toNat) 10 t104 _ A5.out).mono ?_); rintro e w' ⟨rfl, ⟨nd, rfl⟩⟩; refine ⟨_, rfl, ?_⟩))
      go_ret
      exact ⟨by first | rfl | (simp; done) | (simp [*]; done), by repeat (first | exact Drawn0.refl _ | apply Drawn0.step)⟩
    · rw [if_neg c4] at H
      exact absurd H (by simp)
  · rw [if_neg c3] at H
    exact absurd H (by simp)

/-! ### text_Line: function 19 -/
def text_Line.j0 : Nat → ByteArray → Int → Bool → Option (Int × Int × Int)
  | 0, _, _, _ => none
  | k + 1, x0, x1, x14 => if x14 = true then (some (0, 0, 2)) else (if 0 ≤ x1 then (if x1 ≤ (x0.size : Int) then ((text_Lines.f (x0.extract 0 (x1 : Int).toNat)).bind fun t105 => ((text_begin.f x0 x1).bind fun t106 => (some (t105, wrap64 ((wrap64 (x1 - t106)) + 1), 0)))) else (none)) else (none))
def text_Line.f (k : Nat) (a0 : ByteArray) (a1 : Int) : Option (Int × Int × Int) := if a1 < 0 then (text_Line.j0 k a0 a1 true) else (text_Line.j0 k a0 a1 (decide (a1 > (a0.size : Int))))
theorem text_Line.mono_l : ∀ k, (∀ y0 y1 y2, LeO (text_Line.j0 k y0 y1 y2) (text_Line.j0 (k + 1) y0 y1 y2))
  | 0 => fun _ _ _ r h => by simp [text_Line.j0] at h
  | k + 1 => by
    have ih0 := text_Line.mono_l k
    · intro y0 y1 y2
      unfold text_Line.j0
      repeat' first
      | (with_reducible exact ih0 _ _ _)
      | (with_reducible exact LeO.refl _)
      | (with_reducible exact LeO.none _)
      | (with_reducible refine LeO.ite ?_ ?_)
      | (with_reducible refine LeO.bind ?_ (fun _ => ?_))
      | exact ih0 _ _ _
      | exact LeO.none _
      | refine LeO.ite ?_ ?_
      | refine LeO.bind ?_ (fun _ => ?_)
theorem text_Line.mono : ∀ a0 a1 k, LeO (text_Line.f k a0 a1) (text_Line.f (k + 1) a0 a1) := by
  intro a0 a1 k
  have ih0 := text_Line.mono_l k
  unfold text_Line.f
  repeat' first
      | (with_reducible exact ih0 _ _ _)
      | (with_reducible exact LeO.refl _)
      | (with_reducible exact LeO.none _)
      | (with_reducible refine LeO.ite ?_ ?_)
      | (with_reducible refine LeO.bind ?_ (fun _ => ?_))
      | exact ih0 _ _ _
      | exact LeO.none _
      | refine LeO.ite ?_ ?_
      | refine LeO.bind ?_ (fun _ => ?_)
set_option maxHeartbeats 8000000 in
set_option maxRecDepth 100000 in
theorem text_Line.calls (k : Nat) (a0 : ByteArray) (a1 : Int) (r1 : Int) (r2 : Int) (r3 : Int) (w : World) (h : text_Line.f k a0 a1 = some (r1, r2, r3)) :
    Calls Tryd.prog 19 #[.string a0, .int .i64 a1] w fun e w' => e = .returned (.tuple #[.int .i64 r1, .int .i64 r2, .int .i64 r3]) ∧ Drawn0 w w' := by
  have H : (if a1 < 0 then (text_Line.j0 k a0 a1 true) else (text_Line.j0 k a0 a1 (decide (a1 > (a0.size : Int))))) = some (r1, r2, r3) := h
  clear h
  have HC3 := Aside0.mk H
  clear H
  go_enter Tryd.func19, Tryd.ntmps19
  go_upto_region 1 with (fail)
  go_cut [14] (fun v14 wc => ∃ (kq : Nat) (x14_2 : Bool), v14 = .bool x14_2 ∧ Aside0 (text_Line.j0 kq a0 a1 x14_2 = some (r1, r2, r3)) ∧ Aside0 (kq ≤ k) ∧ Drawn0 w wc)
  case first =>
    have H := HC3.out
    clear HC3
    by_cases c4 : a1 < 0
    · rw [if_pos c4] at H
      have c4b0 : decide (a1 < 0) = true := decide_eq_true c4
      clear c4
      (first | rw [c4b0] | (simp only [i64_w, i32_w]; rw [c4b0]) | skip)
      have H' := Aside0.mk H
      clear H
      go_wp2
      go_meet
      case rel => exact ⟨_, (true), (by first | rfl | (simp; done) | (simp [*]; done)), H', ⟨by first | omega | exact Nat.le_refl _⟩, by repeat (first | exact Drawn0.refl _ | apply Drawn0.step)⟩
    · rw [if_neg c4] at H
      have c4b0 : decide (a1 < 0) = false := decide_eq_false c4
      clear c4
      (first | rw [c4b0] | (simp only [i64_w, i32_w]; rw [c4b0]) | skip)
      have H' := Aside0.mk H
      clear H
      go_wp2
      go_meet
      case rel => exact ⟨_, (decide (a1 > (a0.size : Int))), (by first | rfl | (simp; done) | (simp [*]; done)), H', ⟨by first | omega | exact Nat.le_refl _⟩, by repeat (first | exact Drawn0.refl _ | apply Drawn0.step)⟩
  case rest =>
    clear HC3
    try clear c1
    try clear p2
    try clear c4
    try clear c4b0
    obtain ⟨kq, x14_2, rfl, HA, HJ2, ⟨mc2, rfl⟩⟩ := hcut
    cases kq with
    | zero => exact absurd HA.out (by simp [text_Line.j0])
    | succ kj2 =>
      have H := HA.out
      clear HA
      simp only [text_Line.j0] at H
      by_cases c5 : x14_2 = true
      · subst c5
        have H1 : (some (0, 0, 2)) = some (r1, r2, r3) := by rw [if_pos rfl] at H; exact H
        clear H
        have H := H1
        clear H1
        simp only [Option.some.injEq, Prod.mk.injEq] at H
        obtain ⟨rfl, rfl, rfl⟩ := H
        go_wp2
        go_ret3
        exact ⟨by first | rfl | (simp; done) | (simp [*]; done), by repeat (first | exact Drawn0.refl _ | apply Drawn0.step)⟩
      · replace c5 := Bool.eq_false_iff.mpr c5
        subst c5
        have H1 : (if 0 ≤ a1 then (if a1 ≤ (a0.size : Int) then ((text_Lines.f (a0.extract 0 (a1 : Int).toNat)).bind fun t105 => ((text_begin.f a0 a1).bind fun t106 => (some (t105, wrap64 ((wrap64 (a1 - t106)) + 1), 0)))) else (none)) else (none)) = some (r1, r2, r3) := by rw [if_neg (show ¬ (false = true) by decide)] at H; exact H
        clear H
        have H := H1
        clear H1
        by_cases c6 : 0 ≤ a1
        · rw [if_pos c6] at H
          have c6b0 := eq_true c6
          have c6b1 : decide (0 ≤ a1) = true := decide_eq_true c6
          clear c6
          by_cases c7 : a1 ≤ (a0.size : Int)
          · rw [if_pos c7] at H
            have c7b0 := eq_true c7
            have c7b1 : decide (a1 ≤ (a0.size : Int)) = true := decide_eq_true c7
            clear c7
            replace H := Option.bind_eq_some_iff.mp H
            obtain ⟨t105, A80, H⟩ := H
            replace H : ((text_begin.f a0 a1).bind fun t106 => (some (t105, wrap64 ((wrap64 (a1 - t106)) + 1), 0))) = some (r1, r2, r3) := H
            have A8 := Aside0.mk A80
            clear A80
            replace H := Option.bind_eq_some_iff.mp H
            obtain ⟨t106, A90, H⟩ := H
            replace H : (some (t105, wrap64 ((wrap64 (a1 - t106)) + 1), 0)) = some (r1, r2, r3) := H
            have A9 := Aside0.mk A90
            clear A90
            simp only [Option.some.injEq, Prod.mk.injEq] at H
            obtain ⟨rfl, rfl, rfl⟩ := H
            go_wp2_with (first | ((with_reducible refine gate_callee (f := 23) rfl ?_); refine goesL_ (some 18) rfl rfl Tryd.func23 (by kernel_rfl) rfl #[.string (a0.extract 0 (a1 : Int).toNat)] rfl (by (try simp only [List.map_toArray, List.map_cons, List.map_nil]); first | done | rfl | (simp only [List.length_drop, List.length_take]; rfl)) ?_; (with_reducible refine (text_Lines.calls (a0.extract 0 (a1 : Int).toNat) t105 _ A8.out).mono ?_); rintro e w' ⟨rfl, ⟨nd, rfl⟩⟩; refine ⟨_, rfl, ?_⟩) | ((with_reducible refine gate_callee (f := 24) rfl ?_); refine goesL_ (some 22) rfl rfl Tryd.func24 (by kernel_rfl) rfl #[.string a0, .int .i64 a1] rfl (by (try simp only [List.map_toArray, List.map_cons, List.map_nil]); first | done | rfl | (simp only [List.length_drop, List.length_take]; rfl)) ?_; (with_reducible refine (text_begin.calls a0 a1 t106 _ A9.out).mono ?_); rintro e w' ⟨rfl, ⟨nd, rfl⟩⟩; refine ⟨_, rfl, ?_⟩))
            go_ret3
            exact ⟨by first | rfl | (simp; done) | (simp [*]; done), by repeat (first | exact Drawn0.refl _ | apply Drawn0.step)⟩
          · rw [if_neg c7] at H
            exact absurd H (by simp)
        · rw [if_neg c6] at H
          exact absurd H (by simp)

/-! ### strconv_Itoa_20: function 20 -/
def strconv_Itoa_20.f (a0 : Int) : Option (ByteArray) := if 0 ≤ a0 ∧ a0 < 100 then some ⟨(Lib.decDigits a0.toNat).toArray⟩ else none
theorem strconv_Itoa_20.calls (a0 : Int) (r : ByteArray) (w : World) (h : strconv_Itoa_20.f a0 = some r) :
    Calls Tryd.prog 20 #[.int .i64 a0] w fun e w' => e = .returned (.string r) ∧ Drawn0 w w' := by
  unfold strconv_Itoa_20.f at h
  split at h
  · rename_i hr
    obtain rfl := Option.some.inj h
    obtain ⟨i, rfl⟩ : ∃ i : Nat, a0 = (i : Int) := ⟨a0.toNat, by omega⟩
    refine (Tryd.strconv_Itoa_small i (by omega) w).mono ?_
    rintro e w' ⟨rfl, rfl⟩
    exact ⟨rfl, Drawn0.refl _⟩
  · cases h



/-! ### report_Place: function 11 -/
def report_Place.j0 : Nat → List (S31) → Int → Int → Bool → Option (ByteArray)
  | 0, _, _, _, _ => none
  | k + 1, x0, x1, x2, x17 => if x17 = true then (some (⟨#[63]⟩ : ByteArray)) else (if 0 ≤ x1 then (if x1 < (x0.length : Int) then ((text_Line.f k ((rd_T31 x0 x1).f1) x2).bind fun bt108 => (if bt108.2.2 = 0 then ((report_Quote.f ((rd_T31 x0 x1).f0)).bind fun t112 => (if t112.size + 1 ≤ 9223372036854775807 then ((strconv_Itoa_20.f bt108.1).bind fun t113 => (if (t112 ++ (⟨#[58]⟩ : ByteArray)).size + t113.size ≤ 9223372036854775807 then (if ((t112 ++ (⟨#[58]⟩ : ByteArray)) ++ t113).size + 1 ≤ 9223372036854775807 then ((strconv_Itoa_20.f bt108.2.1).bind fun t114 => (if (((t112 ++ (⟨#[58]⟩ : ByteArray)) ++ t113) ++ (⟨#[58]⟩ : ByteArray)).size + t114.size ≤ 9223372036854775807 then (some ((((t112 ++ (⟨#[58]⟩ : ByteArray)) ++ t113) ++ (⟨#[58]⟩ : ByteArray)) ++ t114)) else (none))) else (none)) else (none))) else (none))) else (some (⟨#[63]⟩ : ByteArray)))) else (none)) else (none))
def report_Place.f (k : Nat) (l0 : List (S31)) (a1 : Int) (a2 : Int) : Option (ByteArray) := if a1 < 0 then (report_Place.j0 k l0 a1 a2 true) else (report_Place.j0 k l0 a1 a2 (decide (a1 ≥ (l0.length : Int))))
theorem report_Place.mono_l : ∀ k, (∀ y0 y1 y2 y3, LeO (report_Place.j0 k y0 y1 y2 y3) (report_Place.j0 (k + 1) y0 y1 y2 y3))
  | 0 => fun _ _ _ _ r h => by simp [report_Place.j0] at h
  | k + 1 => by
    have ih0 := report_Place.mono_l k
    · intro y0 y1 y2 y3
      unfold report_Place.j0
      repeat' first
      | (with_reducible exact ih0 _ _ _ _)
      | (with_reducible exact text_Line.mono _ _ _)
      | (with_reducible exact LeO.refl _)
      | (with_reducible exact LeO.none _)
      | (with_reducible refine LeO.ite ?_ ?_)
      | (with_reducible refine LeO.bind ?_ (fun _ => ?_))
      | exact ih0 _ _ _ _
      | exact text_Line.mono _ _ _
      | exact LeO.none _
      | refine LeO.ite ?_ ?_
      | refine LeO.bind ?_ (fun _ => ?_)
theorem report_Place.mono : ∀ a0 a1 a2 k, LeO (report_Place.f k a0 a1 a2) (report_Place.f (k + 1) a0 a1 a2) := by
  intro a0 a1 a2 k
  have ih0 := report_Place.mono_l k
  unfold report_Place.f
  repeat' first
      | (with_reducible exact ih0 _ _ _ _)
      | (with_reducible exact text_Line.mono _ _ _)
      | (with_reducible exact LeO.refl _)
      | (with_reducible exact LeO.none _)
      | (with_reducible refine LeO.ite ?_ ?_)
      | (with_reducible refine LeO.bind ?_ (fun _ => ?_))
      | exact ih0 _ _ _ _
      | exact text_Line.mono _ _ _
      | exact LeO.none _
      | refine LeO.ite ?_ ?_
      | refine LeO.bind ?_ (fun _ => ?_)
set_option maxHeartbeats 8000000 in
set_option maxRecDepth 100000 in
theorem report_Place.calls (k : Nat) (A0 : Option Addr) (c0 : Nat) (l0 : List (S31)) (a1 : Int) (a2 : Int) (r : ByteArray) (w : World) (hr0 : Kd.C k31 w A0 l0.length l0) (hc0 : l0.length ≤ c0) (h : report_Place.f k l0 a1 a2 = some r) :
    Calls Tryd.prog 11 #[.slice A0 l0.length c0, .int .i64 a1, .int .i64 a2] w fun e w' => e = .returned (.string r) ∧ Below w.heap.size w w' := by
  have HR0 := Aside0.mk hr0
  have HC0 := Aside0.mk hc0
  clear hr0 hc0
  have HB := Aside0.mk (Below.refl w.heap.size w)
  have H : (if a1 < 0 then (report_Place.j0 k l0 a1 a2 true) else (report_Place.j0 k l0 a1 a2 (decide (a1 ≥ (l0.length : Int))))) = some r := h
  clear h
  have HC4 := Aside0.mk H
  clear H
  go_enter Tryd.func11, Tryd.ntmps11
  go_upto_region 1 with (fail)
  go_cut [17] (fun v17 wc => ∃ (kq : Nat) (x17_3 : Bool), v17 = .bool x17_3 ∧ Aside0 (report_Place.j0 kq l0 a1 a2 x17_3 = some r) ∧ Aside0 (kq ≤ k) ∧ Aside0 (Below w.heap.size w wc))
  case first =>
    have H := HC4.out
    clear HC4
    by_cases c5 : a1 < 0
    · rw [if_pos c5] at H
      have c5b0 : decide (a1 < 0) = true := decide_eq_true c5
      clear c5
      (first | rw [c5b0] | (simp only [i64_w, i32_w]; rw [c5b0]) | skip)
      have H' := Aside0.mk H
      clear H
      go_wp2
      go_meet
      case rel => exact ⟨_, (true), (by first | rfl | (simp; done) | (simp [*]; done)), H', ⟨by first | omega | exact Nat.le_refl _⟩, ⟨by repeat (first | (with_reducible first | exact HB.out | apply below_alloc | apply pw_below_drewN | apply below_drew1) | exact HB.out)⟩⟩
    · rw [if_neg c5] at H
      have c5b0 : decide (a1 < 0) = false := decide_eq_false c5
      clear c5
      (first | rw [c5b0] | (simp only [i64_w, i32_w]; rw [c5b0]) | skip)
      have H' := Aside0.mk H
      clear H
      go_wp2
      go_meet
      case rel => exact ⟨_, (decide (a1 ≥ (l0.length : Int))), (by first | rfl | (simp; done) | (simp [*]; done)), H', ⟨by first | omega | exact Nat.le_refl _⟩, ⟨by repeat (first | (with_reducible first | exact HB.out | apply below_alloc | apply pw_below_drewN | apply below_drew1) | exact HB.out)⟩⟩
  case rest =>
    clear HC4
    try clear c1
    try clear p2
    try clear c5
    try clear c5b0
    obtain ⟨kq, x17_3, rfl, HA, HJ3, HB⟩ := hcut
    cases kq with
    | zero => exact absurd HA.out (by simp [report_Place.j0])
    | succ kj3 =>
      have H := HA.out
      clear HA
      simp only [report_Place.j0] at H
      by_cases c6 : x17_3 = true
      · subst c6
        have H1 : (some (⟨#[63]⟩ : ByteArray)) = some r := by rw [if_pos rfl] at H; exact H
        clear H
        have H := H1
        clear H1
        obtain rfl := Option.some.inj H
        go_wp2
        go_ret
        exact ⟨by first | rfl | (simp [errW_none, errW_some] <;> rfl) | (simp [*, errW_none, errW_some] <;> rfl), by repeat (first | (with_reducible first | exact HB.out | apply below_alloc | apply pw_below_drewN | apply below_drew1) | exact HB.out)⟩
      · replace c6 := Bool.eq_false_iff.mpr c6
        subst c6
        have H1 : (if 0 ≤ a1 then (if a1 < (l0.length : Int) then ((text_Line.f kj3 ((rd_T31 l0 a1).f1) a2).bind fun bt108 => (if bt108.2.2 = 0 then ((report_Quote.f ((rd_T31 l0 a1).f0)).bind fun t112 => (if t112.size + 1 ≤ 9223372036854775807 then ((strconv_Itoa_20.f bt108.1).bind fun t113 => (if (t112 ++ (⟨#[58]⟩ : ByteArray)).size + t113.size ≤ 9223372036854775807 then (if ((t112 ++ (⟨#[58]⟩ : ByteArray)) ++ t113).size + 1 ≤ 9223372036854775807 then ((strconv_Itoa_20.f bt108.2.1).bind fun t114 => (if (((t112 ++ (⟨#[58]⟩ : ByteArray)) ++ t113) ++ (⟨#[58]⟩ : ByteArray)).size + t114.size ≤ 9223372036854775807 then (some ((((t112 ++ (⟨#[58]⟩ : ByteArray)) ++ t113) ++ (⟨#[58]⟩ : ByteArray)) ++ t114)) else (none))) else (none)) else (none))) else (none))) else (some (⟨#[63]⟩ : ByteArray)))) else (none)) else (none)) = some r := by rw [if_neg (show ¬ (false = true) by decide)] at H; exact H
        clear H
        have H := H1
        clear H1
        by_cases c7 : 0 ≤ a1
        · rw [if_pos c7] at H
          have c7b0 : decide (0 ≤ a1) = true := decide_eq_true c7
          clear c7
          by_cases c8 : a1 < (l0.length : Int)
          · rw [if_pos c8] at H
            have c8b0 : decide (a1 < (l0.length : Int)) = true := decide_eq_true c8
            clear c8
            replace H := Option.bind_eq_some_iff.mp H
            obtain ⟨⟨t108, t109, t110⟩, A90, H⟩ := H
            replace H : (if t110 = 0 then ((report_Quote.f ((rd_T31 l0 a1).f0)).bind fun t112 => (if t112.size + 1 ≤ 9223372036854775807 then ((strconv_Itoa_20.f t108).bind fun t113 => (if (t112 ++ (⟨#[58]⟩ : ByteArray)).size + t113.size ≤ 9223372036854775807 then (if ((t112 ++ (⟨#[58]⟩ : ByteArray)) ++ t113).size + 1 ≤ 9223372036854775807 then ((strconv_Itoa_20.f t109).bind fun t114 => (if (((t112 ++ (⟨#[58]⟩ : ByteArray)) ++ t113) ++ (⟨#[58]⟩ : ByteArray)).size + t114.size ≤ 9223372036854775807 then (some ((((t112 ++ (⟨#[58]⟩ : ByteArray)) ++ t113) ++ (⟨#[58]⟩ : ByteArray)) ++ t114)) else (none))) else (none)) else (none))) else (none))) else (some (⟨#[63]⟩ : ByteArray))) = some r := H
            have A9 := Aside0.mk A90
            clear A90
            by_cases c10 : t110 = 0
            · rw [if_pos c10] at H
              have c10b0 : (t110 == 0) = true := beq_iff_eq.mpr c10
              have c10b1 : (t110 != 0) = false := bne_eq_false_iff_eq.mpr c10
              clear c10
              replace H := Option.bind_eq_some_iff.mp H
              obtain ⟨t112, A110, H⟩ := H
              replace H : (if t112.size + 1 ≤ 9223372036854775807 then ((strconv_Itoa_20.f t108).bind fun t113 => (if (t112 ++ (⟨#[58]⟩ : ByteArray)).size + t113.size ≤ 9223372036854775807 then (if ((t112 ++ (⟨#[58]⟩ : ByteArray)) ++ t113).size + 1 ≤ 9223372036854775807 then ((strconv_Itoa_20.f t109).bind fun t114 => (if (((t112 ++ (⟨#[58]⟩ : ByteArray)) ++ t113) ++ (⟨#[58]⟩ : ByteArray)).size + t114.size ≤ 9223372036854775807 then (some ((((t112 ++ (⟨#[58]⟩ : ByteArray)) ++ t113) ++ (⟨#[58]⟩ : ByteArray)) ++ t114)) else (none))) else (none)) else (none))) else (none)) = some r := H
              have A11 := Aside0.mk A110
              clear A110
              by_cases c12 : t112.size + 1 ≤ 9223372036854775807
              · rw [if_pos c12] at H
                have c12b0 := eq_true c12
                have c12b1 : decide (t112.size + 1 ≤ 9223372036854775807) = true := decide_eq_true c12
                try have c12b2 : (9223372036854775807 < t112.size + 1) = False := eq_false (Nat.not_lt.2 c12)
                replace H := Option.bind_eq_some_iff.mp H
                obtain ⟨t113, A130, H⟩ := H
                replace H : (if (t112 ++ (⟨#[58]⟩ : ByteArray)).size + t113.size ≤ 9223372036854775807 then (if ((t112 ++ (⟨#[58]⟩ : ByteArray)) ++ t113).size + 1 ≤ 9223372036854775807 then ((strconv_Itoa_20.f t109).bind fun t114 => (if (((t112 ++ (⟨#[58]⟩ : ByteArray)) ++ t113) ++ (⟨#[58]⟩ : ByteArray)).size + t114.size ≤ 9223372036854775807 then (some ((((t112 ++ (⟨#[58]⟩ : ByteArray)) ++ t113) ++ (⟨#[58]⟩ : ByteArray)) ++ t114)) else (none))) else (none)) else (none)) = some r := H
                have A13 := Aside0.mk A130
                clear A130
                by_cases c14 : (t112 ++ (⟨#[58]⟩ : ByteArray)).size + t113.size ≤ 9223372036854775807
                · rw [if_pos c14] at H
                  have c14b0 := eq_true c14
                  have c14b1 : decide ((t112 ++ (⟨#[58]⟩ : ByteArray)).size + t113.size ≤ 9223372036854775807) = true := decide_eq_true c14
                  try have c14b2 : (9223372036854775807 < (t112 ++ (⟨#[58]⟩ : ByteArray)).size + t113.size) = False := eq_false (Nat.not_lt.2 c14)
                  try have c14e : t112.size + 1 + t113.size ≤ 9223372036854775807 := by (have h_ := c14; (try simp only [ByteArray.size_append, ByteArray.size_extract, show (⟨#[58]⟩ : ByteArray).size = 1 from rfl] at h_); omega)
                  try have c14f : (9223372036854775807 < t112.size + 1 + t113.size) = False := eq_false (Nat.not_lt.2 c14e)
                  by_cases c15 : ((t112 ++ (⟨#[58]⟩ : ByteArray)) ++ t113).size + 1 ≤ 9223372036854775807
                  · rw [if_pos c15] at H
                    have c15b0 := eq_true c15
                    have c15b1 : decide (((t112 ++ (⟨#[58]⟩ : ByteArray)) ++ t113).size + 1 ≤ 9223372036854775807) = true := decide_eq_true c15
                    try have c15b2 : (9223372036854775807 < ((t112 ++ (⟨#[58]⟩ : ByteArray)) ++ t113).size + 1) = False := eq_false (Nat.not_lt.2 c15)
                    try have c15e : t112.size + 1 + t113.size + 1 ≤ 9223372036854775807 := by (have h_ := c15; (try simp only [ByteArray.size_append, ByteArray.size_extract, show (⟨#[58]⟩ : ByteArray).size = 1 from rfl] at h_); omega)
                    try have c15f : (9223372036854775807 < t112.size + 1 + t113.size + 1) = False := eq_false (Nat.not_lt.2 c15e)
                    replace H := Option.bind_eq_some_iff.mp H
                    obtain ⟨t114, A160, H⟩ := H
                    replace H : (if (((t112 ++ (⟨#[58]⟩ : ByteArray)) ++ t113) ++ (⟨#[58]⟩ : ByteArray)).size + t114.size ≤ 9223372036854775807 then (some ((((t112 ++ (⟨#[58]⟩ : ByteArray)) ++ t113) ++ (⟨#[58]⟩ : ByteArray)) ++ t114)) else (none)) = some r := H
                    have A16 := Aside0.mk A160
                    clear A160
                    by_cases c17 : (((t112 ++ (⟨#[58]⟩ : ByteArray)) ++ t113) ++ (⟨#[58]⟩ : ByteArray)).size + t114.size ≤ 9223372036854775807
                    · rw [if_pos c17] at H
                      have c17b0 := eq_true c17
                      have c17b1 : decide ((((t112 ++ (⟨#[58]⟩ : ByteArray)) ++ t113) ++ (⟨#[58]⟩ : ByteArray)).size + t114.size ≤ 9223372036854775807) = true := decide_eq_true c17
                      try have c17b2 : (9223372036854775807 < (((t112 ++ (⟨#[58]⟩ : ByteArray)) ++ t113) ++ (⟨#[58]⟩ : ByteArray)).size + t114.size) = False := eq_false (Nat.not_lt.2 c17)
                      try have c17e : t112.size + 1 + t113.size + 1 + t114.size ≤ 9223372036854775807 := by (have h_ := c17; (try simp only [ByteArray.size_append, ByteArray.size_extract, show (⟨#[58]⟩ : ByteArray).size = 1 from rfl] at h_); omega)
                      try have c17f : (9223372036854775807 < t112.size + 1 + t113.size + 1 + t114.size) = False := eq_false (Nat.not_lt.2 c17e)
                      obtain rfl := Option.some.inj H
                      have p107 : 0 ≤ (a1 : Int) := of_decide_eq_true (by first | (with_reducible assumption) | assumption)
                      have q107 : a1 < (l0.length : Int) := of_decide_eq_true (by first | (with_reducible assumption) | assumption)
                      obtain ⟨ad107, e107, hx107_0, hx107_1⟩ := at_T31 HR0.out a1 p107 q107
                      cases e107
                      replace hx107_0 := (HB.out.cell (World.block_lt_of_cell? w _ hx107_0)).trans hx107_0
                      replace hx107_1 := (HB.out.cell (World.block_lt_of_cell? w _ hx107_1)).trans hx107_1
                      replace p107 := eq_true p107
                      replace q107 := eq_true q107
                      go_wp2_with (first | ((with_reducible refine gate_callee (f := 19) rfl ?_); refine goesL_ (some 25) rfl rfl Tryd.func19 (by kernel_rfl) rfl #[.string ((rd_T31 l0 a1).f1), .int .i64 a2] rfl (by (try simp only [List.map_toArray, List.map_cons, List.map_nil]); first | done | rfl | (simp only [List.length_drop, List.length_take]; rfl)) ?_; (with_reducible refine (text_Line.calls kj3 ((rd_T31 l0 a1).f1) a2 t108 t109 t110 _ A9.out).mono ?_); rintro e w' ⟨rfl, ⟨nd, rfl⟩⟩; refine ⟨_, rfl, ?_⟩; have p111 : 0 ≤ (a1 : Int) := of_decide_eq_true (by first | (with_reducible assumption) | assumption); have q111 : a1 < (l0.length : Int) := of_decide_eq_true (by first | (with_reducible assumption) | assumption); obtain ⟨ad111, e111, hx111_0, hx111_1⟩ := at_T31 HR0.out a1 p111 q111; obtain rfl : ad107 = ad111 := (by injection e111); replace hx111_0 := (HB.out.cell (World.block_lt_of_cell? w _ hx111_0)).trans hx111_0; replace hx111_1 := (HB.out.cell (World.block_lt_of_cell? w _ hx111_1)).trans hx111_1; replace p111 := eq_true p111; replace q111 := eq_true q111) | ((with_reducible refine gate_callee (f := 7) rfl ?_); refine goesL_ (some 36) rfl rfl Tryd.func7 (by kernel_rfl) rfl #[.string ((rd_T31 l0 a1).f0)] rfl (by (try simp only [List.map_toArray, List.map_cons, List.map_nil]); first | done | rfl | (simp only [List.length_drop, List.length_take]; rfl)) ?_; (with_reducible refine (report_Quote.calls ((rd_T31 l0 a1).f0) t112 _ A11.out).mono ?_); rintro e w18 ⟨rfl, hb⟩; refine ⟨_, rfl, ?_⟩; have n0_ := Aside0.mk (below_step (by repeat (first | (with_reducible first | exact HB.out | apply below_alloc | apply pw_below_drewN | apply below_drew1) | exact HB.out)) hb); clear HB; have HB := n0_; clear n0_; (try clear hb); (try clear hb2); (try clear hk); (try clear hi)) | ((with_reducible refine gate_callee (f := 20) rfl ?_); refine goesL_ (some 39) rfl rfl Tryd.func20 (by kernel_rfl) rfl #[.int .i64 t108] rfl (by (try simp only [List.map_toArray, List.map_cons, List.map_nil]); first | done | rfl | (simp only [List.length_drop, List.length_take]; rfl)) ?_; (with_reducible refine (strconv_Itoa_20.calls t108 t113 _ A13.out).mono ?_); rintro e w' ⟨rfl, ⟨nd, rfl⟩⟩; refine ⟨_, rfl, ?_⟩) | ((with_reducible refine gate_callee (f := 20) rfl ?_); refine goesL_ (some 43) rfl rfl Tryd.func20 (by kernel_rfl) rfl #[.int .i64 t109] rfl (by (try simp only [List.map_toArray, List.map_cons, List.map_nil]); first | done | rfl | (simp only [List.length_drop, List.length_take]; rfl)) ?_; (with_reducible refine (strconv_Itoa_20.calls t109 t114 _ A16.out).mono ?_); rintro e w' ⟨rfl, ⟨nd, rfl⟩⟩; refine ⟨_, rfl, ?_⟩))
                      go_ret
                      exact ⟨by first | rfl | (simp [errW_none, errW_some] <;> rfl) | (simp [*, errW_none, errW_some] <;> rfl), by repeat (first | (with_reducible first | exact HB.out | apply below_alloc | apply pw_below_drewN | apply below_drew1) | exact HB.out)⟩
                    · rw [if_neg c17] at H
                      exact absurd H (by simp)
                  · rw [if_neg c15] at H
                    exact absurd H (by simp)
                · rw [if_neg c14] at H
                  exact absurd H (by simp)
              · rw [if_neg c12] at H
                exact absurd H (by simp)
            · rw [if_neg c10] at H
              have c10b0 : (t110 == 0) = false := beq_eq_false_iff_ne.mpr c10
              have c10b1 : (t110 != 0) = true := bne_iff_ne.mpr c10
              obtain rfl := Option.some.inj H
              have p107 : 0 ≤ (a1 : Int) := of_decide_eq_true (by first | (with_reducible assumption) | assumption)
              have q107 : a1 < (l0.length : Int) := of_decide_eq_true (by first | (with_reducible assumption) | assumption)
              obtain ⟨ad107, e107, hx107_0, hx107_1⟩ := at_T31 HR0.out a1 p107 q107
              cases e107
              replace hx107_0 := (HB.out.cell (World.block_lt_of_cell? w _ hx107_0)).trans hx107_0
              replace hx107_1 := (HB.out.cell (World.block_lt_of_cell? w _ hx107_1)).trans hx107_1
              replace p107 := eq_true p107
              replace q107 := eq_true q107
              go_wp2_with (first | ((with_reducible refine gate_callee (f := 19) rfl ?_); refine goesL_ (some 25) rfl rfl Tryd.func19 (by kernel_rfl) rfl #[.string ((rd_T31 l0 a1).f1), .int .i64 a2] rfl (by (try simp only [List.map_toArray, List.map_cons, List.map_nil]); first | done | rfl | (simp only [List.length_drop, List.length_take]; rfl)) ?_; (with_reducible refine (text_Line.calls kj3 ((rd_T31 l0 a1).f1) a2 t108 t109 t110 _ A9.out).mono ?_); rintro e w' ⟨rfl, ⟨nd, rfl⟩⟩; refine ⟨_, rfl, ?_⟩))
              go_ret
              exact ⟨by first | rfl | (simp [errW_none, errW_some] <;> rfl) | (simp [*, errW_none, errW_some] <;> rfl), by repeat (first | (with_reducible first | exact HB.out | apply below_alloc | apply pw_below_drewN | apply below_drew1) | exact HB.out)⟩
          · rw [if_neg c8] at H
            exact absurd H (by simp)
        · rw [if_neg c7] at H
          exact absurd H (by simp)

/-! ### report_Word: function 12 -/
theorem report_Word.build_at {P : Program} {ops : Array Oper} {rest : List Oper} {o : Oper} {a : Act} {w : World} {Q : Exit → Act → World → Prop} (hg : o.guard = none) (t : TypeId) (parts : Array (Nat × Operand)) (ho : o.op = .build t parts)
    (c : Array Value) (hc : P.built t (parts.map fun (i, x) => (i, a.eval x)).toList = some c)
    (h : wpList P ops Q rest (a.put o.dst (.agg c)) w) : wpList P ops Q (o :: rest) a w := by
  refine wpList_build hg t parts ho (by rw [hc]; rfl) ?_
  rw [hc]
  exact h
theorem report_Word.store_new {P : Program} {ops : Array Oper} {rest : List Oper} {o : Oper} {a : Act} {w : World} {Q : Exit → Act → World → Prop} (hgd : o.guard = none) (ty : TypeId) (x v : Operand) (ho : o.op = .store ty x v)
    (c c' : Array Value) (g : Nat) (hx : a.eval x = .pointer (some ⟨g, 0, none⟩)) (hgs : g = w.heap.size) (hv : a.eval v = .agg c') (hd : o.dst = none)
    (hi : (P.info? ty).map (·.size) = some c'.size) (hs : c.size = c'.size) (h1 : c'.all (·.oneCell') = true)
    (h : wpList P ops Q rest a (w.alloc (.cells c' ty))) : wpList P ops Q (o :: rest) a (w.alloc (.cells c ty)) := by
  subst hgs
  refine wpList_store_row hgd ty x v ho w.heap.size c' hx hv ty c (heap_alloc_new w _) hi hs h1 ?_
  rw [World.setRow_alloc_new, hd]
  exact h
def report_Word.L : List ByteArray := [(⟨#[111, 107]⟩ : ByteArray), (⟨#[110, 105, 108]⟩ : ByteArray), (⟨#[114, 97, 110, 103, 101]⟩ : ByteArray), (⟨#[111, 118, 101, 114, 108, 97, 112]⟩ : ByteArray), (⟨#[108, 111, 110, 103]⟩ : ByteArray), (⟨#[109, 97, 110, 121]⟩ : ByteArray), (⟨#[100, 101, 101, 112]⟩ : ByteArray), (⟨#[98, 121, 116, 101]⟩ : ByteArray), (⟨#[111, 112, 101, 110]⟩ : ByteArray), (⟨#[102, 111, 114, 109]⟩ : ByteArray), (⟨#[117, 110, 98, 111, 117, 110, 100]⟩ : ByteArray), (⟨#[116, 119, 105, 99, 101]⟩ : ByteArray), (⟨#[109, 97, 116, 99, 104]⟩ : ByteArray), (⟨#[110, 97, 109, 101]⟩ : ByteArray), (⟨#[112, 108, 97, 99, 101]⟩ : ByteArray), (⟨#[115, 97, 109, 101]⟩ : ByteArray), (⟨#[99, 97, 112, 116, 117, 114, 101]⟩ : ByteArray), (⟨#[117, 110, 100, 111]⟩ : ByteArray)]
def report_Word.A : Array Value := (report_Word.L.map Value.string).toArray
theorem report_Word.size : (Tryd.prog.info? 52).map (·.size) = some report_Word.A.size := by kernel_rfl
theorem report_Word.one : report_Word.A.all (·.oneCell') = true := by kernel_rfl
def report_Word.f (a0 : Int) : Option (ByteArray) := some (if a0 < 0 then (⟨#[101, 114, 114, 111, 114]⟩ : ByteArray) else (report_Word.L[a0.toNat]?).getD (⟨#[101, 114, 114, 111, 114]⟩ : ByteArray))
set_option maxHeartbeats 4000000 in
set_option maxRecDepth 100000 in
theorem report_Word.calls (a0 : Int) (r : ByteArray) (w : World) (h : report_Word.f a0 = some r) :
    Calls Tryd.prog 12 #[.int .i64 a0] w fun e w' => e = .returned (.string r) ∧ Below w.heap.size w w' := by
  have HB := Aside0.mk ((Below.refl w.heap.size w).alloc (Nat.le_refl _) (.cells report_Word.A 52))
  by_cases hn : a0 < 0
  · obtain rfl : r = (⟨#[101, 114, 114, 111, 114]⟩ : ByteArray) := by simpa [report_Word.f, hn] using h.symm
    have c0 : decide (a0 < 0) = true := decide_eq_true hn
    clear h hn
    go_enter Tryd.func12, Tryd.ntmps12
    go_wp2_with (first | (refine report_Word.build_at rfl _ _ rfl report_Word.A (by as_aux_lemma => kernel_rfl) ?_) | (refine report_Word.store_new rfl _ _ _ rfl _ report_Word.A _ rfl ?hgs rfl rfl report_Word.size rfl report_Word.one ?_; (case hgs => simp)))
    go_ret
    exact ⟨rfl, HB.out⟩
  · have c0 : decide (a0 < 0) = false := decide_eq_false hn
    by_cases h7 : 18 ≤ a0
    · obtain rfl : r = (⟨#[101, 114, 114, 111, 114]⟩ : ByteArray) := by
        have : report_Word.L[a0.toNat]? = none := List.getElem?_eq_none (by simp [report_Word.L]; omega)
        simpa [report_Word.f, hn, this] using h.symm
      have c1 : decide (a0 ≥ 18) = true := decide_eq_true h7
      have c2 : decide (18 ≤ a0) = true := decide_eq_true h7
      clear h hn h7
      go_enter Tryd.func12, Tryd.ntmps12
      go_wp2_with (first | (refine report_Word.build_at rfl _ _ rfl report_Word.A (by as_aux_lemma => kernel_rfl) ?_) | (refine report_Word.store_new rfl _ _ _ rfl _ report_Word.A _ rfl ?hgs rfl rfl report_Word.size rfl report_Word.one ?_; (case hgs => simp)))
      go_ret
      exact ⟨rfl, HB.out⟩
    · obtain ⟨i, hi⟩ : ∃ i : Nat, a0 = (i : Int) := ⟨a0.toNat, by omega⟩
      subst hi
      have hi : i < 18 := by omega
      have hr : (report_Word.L.map Value.string)[i]? = some (Value.string r) := by
        rw [List.getElem?_map]
        have : report_Word.L[i]? = some r := by
          have hl : i < report_Word.L.length := hi
          have h' := Option.some.inj h
          rw [if_neg hn, show ((i : Int)).toNat = i from rfl, List.getElem?_eq_getElem hl] at h'
          rw [List.getElem?_eq_getElem hl]
          exact congrArg some h'
        rw [this]; rfl
      have HE : report_Word.A[i]? = some (Value.string r) := by simpa [report_Word.A] using hr
      clear h hr
      have c1 : decide ((i : Int) ≥ 18) = false := decide_eq_false h7
      have c2 : decide (18 ≤ (i : Int)) = false := decide_eq_false h7
      have h0 : (0 : Int) ≤ (i : Int) := by omega
      have h1 : (i : Int) < 18 := by omega
      go_enter Tryd.func12, Tryd.ntmps12
      go_wp2_with (first | (refine report_Word.build_at rfl _ _ rfl report_Word.A (by as_aux_lemma => kernel_rfl) ?_) | (refine report_Word.store_new rfl _ _ _ rfl _ report_Word.A _ rfl ?hgs rfl rfl report_Word.size rfl report_Word.one ?_; (case hgs => simp)))
      go_ret
      exact ⟨rfl, HB.out⟩



/-! ### oriellaw25_alive: function 6 -/
def oriellaw25_alive.f (k : Nat)  : Option (Bool) := (report_Unquote.f k (⟨#[34, 97, 92, 34, 92, 120, 48, 57, 34]⟩ : ByteArray)).bind fun bt118 => ((report_Quote.f (⟨#[97, 34, 9]⟩ : ByteArray)).bind fun t120 => (if t120.toList = ([34, 97, 92, 34, 92, 120, 48, 57, 34] : List UInt8) then (if bt118.1.toList = ([97, 34, 9] : List UInt8) then (if bt118.2 = true then ((report_Place.f k (([(⟨(⟨#[97]⟩ : ByteArray), (⟨#[120, 10, 121]⟩ : ByteArray)⟩ : S31)] : List (S31))) 0 2).bind fun t121 => (if t121.toList = ([34, 97, 34, 58, 50, 58, 49] : List UInt8) then ((report_Word.f 10).bind fun t122 => (some (t122.toList == ([117, 110, 98, 111, 117, 110, 100] : List UInt8)))) else (some false))) else (some false)) else (some false)) else (some false)))
theorem oriellaw25_alive.mono : ∀ k, LeO (oriellaw25_alive.f k ) (oriellaw25_alive.f (k + 1) ) := by
  intro  k
  unfold oriellaw25_alive.f
  repeat' first
      | (with_reducible exact report_Place.mono _ _ _ _)
      | (with_reducible exact report_Unquote.mono _ _)
      | (with_reducible exact LeO.refl _)
      | (with_reducible exact LeO.none _)
      | (with_reducible refine LeO.ite ?_ ?_)
      | (with_reducible refine LeO.bind ?_ (fun _ => ?_))
      | exact report_Place.mono _ _ _ _
      | exact report_Unquote.mono _ _
      | exact LeO.none _
      | refine LeO.ite ?_ ?_
      | refine LeO.bind ?_ (fun _ => ?_)
set_option maxHeartbeats 8000000 in
set_option maxRecDepth 100000 in
theorem oriellaw25_alive.calls (k : Nat)  (r : Bool) (w : World) (h : oriellaw25_alive.f k  = some r) :
    Calls Tryd.prog 6 #[] w fun e w' => e = .returned (.bool r) ∧ Below w.heap.size w w' := by
  have hu31 := Tryd.underlying31
  have HB := Aside0.mk (Below.refl w.heap.size w)
  have H : ((report_Unquote.f k (⟨#[34, 97, 92, 34, 92, 120, 48, 57, 34]⟩ : ByteArray)).bind fun bt118 => ((report_Quote.f (⟨#[97, 34, 9]⟩ : ByteArray)).bind fun t120 => (if t120.toList = ([34, 97, 92, 34, 92, 120, 48, 57, 34] : List UInt8) then (if bt118.1.toList = ([97, 34, 9] : List UInt8) then (if bt118.2 = true then ((report_Place.f k (([(⟨(⟨#[97]⟩ : ByteArray), (⟨#[120, 10, 121]⟩ : ByteArray)⟩ : S31)] : List (S31))) 0 2).bind fun t121 => (if t121.toList = ([34, 97, 34, 58, 50, 58, 49] : List UInt8) then ((report_Word.f 10).bind fun t122 => (some (t122.toList == ([117, 110, 98, 111, 117, 110, 100] : List UInt8)))) else (some false))) else (some false)) else (some false)) else (some false)))) = some r := h
  clear h
  obtain ⟨y115, hy115⟩ : ∃ y_ : List (S31), y_ = (([(⟨(⟨#[97]⟩ : ByteArray), (⟨#[120, 10, 121]⟩ : ByteArray)⟩ : S31)] : List (S31))) := ⟨_, rfl⟩
  replace H : ((report_Unquote.f k (⟨#[34, 97, 92, 34, 92, 120, 48, 57, 34]⟩ : ByteArray)).bind fun bt118 => ((report_Quote.f (⟨#[97, 34, 9]⟩ : ByteArray)).bind fun t120 => (if t120.toList = ([34, 97, 92, 34, 92, 120, 48, 57, 34] : List UInt8) then (if bt118.1.toList = ([97, 34, 9] : List UInt8) then (if bt118.2 = true then ((report_Place.f k y115 0 2).bind fun t121 => (if t121.toList = ([34, 97, 34, 58, 50, 58, 49] : List UInt8) then ((report_Word.f 10).bind fun t122 => (some (t122.toList == ([117, 110, 98, 111, 117, 110, 100] : List UInt8)))) else (some false))) else (some false)) else (some false)) else (some false)))) = some r := by first | (rw [hy115]; with_reducible exact H) | (have H2_ := (Option.bind_some _ _).symm.trans H; rw [hy115]; with_reducible exact H2_) | (have H2_ := (Option.bind_some _ _).symm.trans H; with_reducible exact H2_) | with_reducible exact H | (rw [hy115]; exact H) | exact H
  have Ny115 := Aside0.mk hy115
  clear hy115
  replace H := Option.bind_eq_some_iff.mp H
  obtain ⟨⟨t118, t119⟩, A10, H⟩ := H
  replace H : ((report_Quote.f (⟨#[97, 34, 9]⟩ : ByteArray)).bind fun t120 => (if t120.toList = ([34, 97, 92, 34, 92, 120, 48, 57, 34] : List UInt8) then (if t118.toList = ([97, 34, 9] : List UInt8) then (if t119 = true then ((report_Place.f k y115 0 2).bind fun t121 => (if t121.toList = ([34, 97, 34, 58, 50, 58, 49] : List UInt8) then ((report_Word.f 10).bind fun t122 => (some (t122.toList == ([117, 110, 98, 111, 117, 110, 100] : List UInt8)))) else (some false))) else (some false)) else (some false)) else (some false))) = some r := H
  have A1 := Aside0.mk A10
  clear A10
  replace H := Option.bind_eq_some_iff.mp H
  obtain ⟨t120, A20, H⟩ := H
  replace H : (if t120.toList = ([34, 97, 92, 34, 92, 120, 48, 57, 34] : List UInt8) then (if t118.toList = ([97, 34, 9] : List UInt8) then (if t119 = true then ((report_Place.f k y115 0 2).bind fun t121 => (if t121.toList = ([34, 97, 34, 58, 50, 58, 49] : List UInt8) then ((report_Word.f 10).bind fun t122 => (some (t122.toList == ([117, 110, 98, 111, 117, 110, 100] : List UInt8)))) else (some false))) else (some false)) else (some false)) else (some false)) = some r := H
  have A2 := Aside0.mk A20
  clear A20
  by_cases c3 : t120.toList = ([34, 97, 92, 34, 92, 120, 48, 57, 34] : List UInt8)
  · rw [if_pos c3] at H
    have c3b0 : (t120.toList == ([34, 97, 92, 34, 92, 120, 48, 57, 34] : List UInt8)) = true := beq_iff_eq.mpr c3
    have c3b1 : (t120.toList != ([34, 97, 92, 34, 92, 120, 48, 57, 34] : List UInt8)) = false := bne_eq_false_iff_eq.mpr c3
    clear c3
    by_cases c4 : t118.toList = ([97, 34, 9] : List UInt8)
    · rw [if_pos c4] at H
      have c4b0 : (t118.toList == ([97, 34, 9] : List UInt8)) = true := beq_iff_eq.mpr c4
      have c4b1 : (t118.toList != ([97, 34, 9] : List UInt8)) = false := bne_eq_false_iff_eq.mpr c4
      clear c4
      by_cases c5 : t119 = true
      · subst c5
        have H1 : ((report_Place.f k y115 0 2).bind fun t121 => (if t121.toList = ([34, 97, 34, 58, 50, 58, 49] : List UInt8) then ((report_Word.f 10).bind fun t122 => (some (t122.toList == ([117, 110, 98, 111, 117, 110, 100] : List UInt8)))) else (some false))) = some r := by rw [if_pos rfl] at H; exact H
        clear H
        have H := H1
        clear H1
        replace H := Option.bind_eq_some_iff.mp H
        obtain ⟨t121, A60, H⟩ := H
        replace H : (if t121.toList = ([34, 97, 34, 58, 50, 58, 49] : List UInt8) then ((report_Word.f 10).bind fun t122 => (some (t122.toList == ([117, 110, 98, 111, 117, 110, 100] : List UInt8)))) else (some false)) = some r := H
        have A6 := Aside0.mk A60
        clear A60
        by_cases c7 : t121.toList = ([34, 97, 34, 58, 50, 58, 49] : List UInt8)
        · rw [if_pos c7] at H
          have c7b0 : (t121.toList == ([34, 97, 34, 58, 50, 58, 49] : List UInt8)) = true := beq_iff_eq.mpr c7
          have c7b1 : (t121.toList != ([34, 97, 34, 58, 50, 58, 49] : List UInt8)) = false := bne_eq_false_iff_eq.mpr c7
          clear c7
          replace H := Option.bind_eq_some_iff.mp H
          obtain ⟨t122, A80, H⟩ := H
          replace H : (some (t122.toList == ([117, 110, 98, 111, 117, 110, 100] : List UInt8))) = some r := H
          have A8 := Aside0.mk A80
          clear A80
          obtain rfl := Option.some.inj H
          go_enter Tryd.func6, Tryd.ntmps6
          go_wp2_with (first | ((with_reducible refine gate_dst (N := 5) rfl ?_); refine Kd.R_lit k31 _ 31 ?hg (N := 5) ?hd (xs := ([(⟨(⟨#[97]⟩ : ByteArray), (⟨#[120, 10, 121]⟩ : ByteArray)⟩ : S31)] : List (S31))) (inner := [.string (⟨#[97]⟩ : ByteArray), .string (⟨#[120, 10, 121]⟩ : ByteArray)]) (ok := fun _ => True) (okp := fun _ => True) ?hr ?hp (fun _ hk => hk) trivial (Below.refl _ _) (Nat.le_refl _) (by simp) ?_; (case hd => rfl); (case hg => rfl); (case hr => first | (go_simp; done) | (go_simp; rfl)); (case hp => exact (Reps.c2 (show Kd.M k31 _ _ _ (⟨(⟨#[97]⟩ : ByteArray), (⟨#[120, 10, 121]⟩ : ByteArray)⟩ : S31) [.string (⟨#[97]⟩ : ByteArray), .string (⟨#[120, 10, 121]⟩ : ByteArray)] from (k31_mkM _ _ _ (⟨(⟨#[97]⟩ : ByteArray), (⟨#[120, 10, 121]⟩ : ByteArray)⟩ : S31) )) (Reps.none _ _))); intro v116 w9 ho10 hb hg_ hnew_; clear hg_ hnew_; (first | rw [← Ny115.out] at ho10 | (simp only [Int.reduceToNat] at ho10; rw [← Ny115.out] at ho10)); have n0_ := Aside0.mk (Kd.R_lower ho10 (below_size (by repeat (first | (with_reducible first | exact HB.out | apply below_alloc | apply pw_below_drewN | apply below_drew1) | exact HB.out)))); have n1_ := Aside0.mk (below_step (by repeat (first | (with_reducible first | exact HB.out | apply below_alloc | apply pw_below_drewN | apply below_drew1) | exact HB.out)) hb); clear HB; have HO117 := n0_; have HB := n1_; clear n0_ n1_; clear hb ho10) | ((with_reducible refine gate_callee (f := 8) rfl ?_); refine goesL_ (some 7) rfl rfl Tryd.func8 (by kernel_rfl) rfl #[.string (⟨#[34, 97, 92, 34, 92, 120, 48, 57, 34]⟩ : ByteArray)] rfl (by (try simp only [List.map_toArray, List.map_cons, List.map_nil]); first | done | rfl | (simp only [List.length_drop, List.length_take]; rfl)) ?_; (with_reducible refine (report_Unquote.calls k (⟨#[34, 97, 92, 34, 92, 120, 48, 57, 34]⟩ : ByteArray) t118 true _ A1.out).mono ?_); rintro e w11 ⟨rfl, hb⟩; refine ⟨_, rfl, ?_⟩; have n0_ := Aside0.mk (Kd.R_below (by (with_reducible repeat (first | apply Kd.R_alloc | apply Kd.R_drewN | apply Kd.R_drew)); exact HO117.out) hb); have n1_ := Aside0.mk (below_step (by repeat (first | (with_reducible first | exact HB.out | apply below_alloc | apply pw_below_drewN | apply below_drew1) | exact HB.out)) hb); clear HO117; clear HB; have HO117 := n0_; have HB := n1_; clear n0_ n1_; (try clear hb); (try clear hb2); (try clear hk); (try clear hi)) | ((with_reducible refine gate_callee (f := 7) rfl ?_); refine goesL_ (some 10) rfl rfl Tryd.func7 (by kernel_rfl) rfl #[.string (⟨#[97, 34, 9]⟩ : ByteArray)] rfl (by (try simp only [List.map_toArray, List.map_cons, List.map_nil]); first | done | rfl | (simp only [List.length_drop, List.length_take]; rfl)) ?_; (with_reducible refine (report_Quote.calls (⟨#[97, 34, 9]⟩ : ByteArray) t120 _ A2.out).mono ?_); rintro e w12 ⟨rfl, hb⟩; refine ⟨_, rfl, ?_⟩; have n0_ := Aside0.mk (Kd.R_below (by (with_reducible repeat (first | apply Kd.R_alloc | apply Kd.R_drewN | apply Kd.R_drew)); exact HO117.out) hb); have n1_ := Aside0.mk (below_step (by repeat (first | (with_reducible first | exact HB.out | apply below_alloc | apply pw_below_drewN | apply below_drew1) | exact HB.out)) hb); clear HO117; clear HB; have HO117 := n0_; have HB := n1_; clear n0_ n1_; (try clear hb); (try clear hb2); (try clear hk); (try clear hi); obtain ⟨Ao13, co13, eo13⟩ := Kd.R_slice HO117.out; subst eo13) | (go_at_call 11; (with_reducible refine (report_Place.calls k _ _ y115 0 2 t121 _ ?side1 ?side2 A6.out).mono ?_); (case side1 => repeat (first | exact (Kd.R_reads' HO117.out).2.2 | (with_reducible refine Kd.C_alloc ?_ _) | (with_reducible refine Kd.C_drewN ?_ _) | (with_reducible refine Kd.C_drew ?_))); (case side2 => exact (Kd.R_reads' HO117.out).2.1); rintro e w14 ⟨rfl, hb⟩; have n0_ := Aside0.mk (Kd.R_below (by (with_reducible repeat (first | apply Kd.R_alloc | apply Kd.R_drewN | apply Kd.R_drew)); exact HO117.out) hb); have n1_ := Aside0.mk (below_step (by repeat (first | (with_reducible first | exact HB.out | apply below_alloc | apply pw_below_drewN | apply below_drew1) | exact HB.out)) hb); clear HO117; clear HB; have HO117 := n0_; have HB := n1_; clear n0_ n1_; (try clear hb); (try clear hb2); (try clear hk); (try clear hi)) | (go_at_call 12; (with_reducible refine (report_Word.calls 10 t122 _ A8.out).mono ?_); rintro e w15 ⟨rfl, hb⟩; have n0_ := Aside0.mk (Kd.R_below (by (with_reducible repeat (first | apply Kd.R_alloc | apply Kd.R_drewN | apply Kd.R_drew)); exact HO117.out) hb); have n1_ := Aside0.mk (below_step (by repeat (first | (with_reducible first | exact HB.out | apply below_alloc | apply pw_below_drewN | apply below_drew1) | exact HB.out)) hb); clear HO117; clear HB; have HO117 := n0_; have HB := n1_; clear n0_ n1_; (try clear hb); (try clear hb2); (try clear hk); (try clear hi)))
          go_ret
          exact ⟨by first | rfl | (simp [errW_none, errW_some] <;> rfl) | (simp [*, errW_none, errW_some] <;> rfl), by repeat (first | (with_reducible first | exact HB.out | apply below_alloc | apply pw_below_drewN | apply below_drew1) | exact HB.out)⟩
        · rw [if_neg c7] at H
          have c7b0 : (t121.toList == ([34, 97, 34, 58, 50, 58, 49] : List UInt8)) = false := beq_eq_false_iff_ne.mpr c7
          have c7b1 : (t121.toList != ([34, 97, 34, 58, 50, 58, 49] : List UInt8)) = true := bne_iff_ne.mpr c7
          obtain rfl := Option.some.inj H
          go_enter Tryd.func6, Tryd.ntmps6
          go_wp2_with (first | ((with_reducible refine gate_dst (N := 5) rfl ?_); refine Kd.R_lit k31 _ 31 ?hg (N := 5) ?hd (xs := ([(⟨(⟨#[97]⟩ : ByteArray), (⟨#[120, 10, 121]⟩ : ByteArray)⟩ : S31)] : List (S31))) (inner := [.string (⟨#[97]⟩ : ByteArray), .string (⟨#[120, 10, 121]⟩ : ByteArray)]) (ok := fun _ => True) (okp := fun _ => True) ?hr ?hp (fun _ hk => hk) trivial (Below.refl _ _) (Nat.le_refl _) (by simp) ?_; (case hd => rfl); (case hg => rfl); (case hr => first | (go_simp; done) | (go_simp; rfl)); (case hp => exact (Reps.c2 (show Kd.M k31 _ _ _ (⟨(⟨#[97]⟩ : ByteArray), (⟨#[120, 10, 121]⟩ : ByteArray)⟩ : S31) [.string (⟨#[97]⟩ : ByteArray), .string (⟨#[120, 10, 121]⟩ : ByteArray)] from (k31_mkM _ _ _ (⟨(⟨#[97]⟩ : ByteArray), (⟨#[120, 10, 121]⟩ : ByteArray)⟩ : S31) )) (Reps.none _ _))); intro v116 w16 ho17 hb hg_ hnew_; clear hg_ hnew_; (first | rw [← Ny115.out] at ho17 | (simp only [Int.reduceToNat] at ho17; rw [← Ny115.out] at ho17)); have n0_ := Aside0.mk (Kd.R_lower ho17 (below_size (by repeat (first | (with_reducible first | exact HB.out | apply below_alloc | apply pw_below_drewN | apply below_drew1) | exact HB.out)))); have n1_ := Aside0.mk (below_step (by repeat (first | (with_reducible first | exact HB.out | apply below_alloc | apply pw_below_drewN | apply below_drew1) | exact HB.out)) hb); clear HB; have HO117 := n0_; have HB := n1_; clear n0_ n1_; clear hb ho17) | ((with_reducible refine gate_callee (f := 8) rfl ?_); refine goesL_ (some 7) rfl rfl Tryd.func8 (by kernel_rfl) rfl #[.string (⟨#[34, 97, 92, 34, 92, 120, 48, 57, 34]⟩ : ByteArray)] rfl (by (try simp only [List.map_toArray, List.map_cons, List.map_nil]); first | done | rfl | (simp only [List.length_drop, List.length_take]; rfl)) ?_; (with_reducible refine (report_Unquote.calls k (⟨#[34, 97, 92, 34, 92, 120, 48, 57, 34]⟩ : ByteArray) t118 true _ A1.out).mono ?_); rintro e w18 ⟨rfl, hb⟩; refine ⟨_, rfl, ?_⟩; have n0_ := Aside0.mk (Kd.R_below (by (with_reducible repeat (first | apply Kd.R_alloc | apply Kd.R_drewN | apply Kd.R_drew)); exact HO117.out) hb); have n1_ := Aside0.mk (below_step (by repeat (first | (with_reducible first | exact HB.out | apply below_alloc | apply pw_below_drewN | apply below_drew1) | exact HB.out)) hb); clear HO117; clear HB; have HO117 := n0_; have HB := n1_; clear n0_ n1_; (try clear hb); (try clear hb2); (try clear hk); (try clear hi)) | ((with_reducible refine gate_callee (f := 7) rfl ?_); refine goesL_ (some 10) rfl rfl Tryd.func7 (by kernel_rfl) rfl #[.string (⟨#[97, 34, 9]⟩ : ByteArray)] rfl (by (try simp only [List.map_toArray, List.map_cons, List.map_nil]); first | done | rfl | (simp only [List.length_drop, List.length_take]; rfl)) ?_; (with_reducible refine (report_Quote.calls (⟨#[97, 34, 9]⟩ : ByteArray) t120 _ A2.out).mono ?_); rintro e w19 ⟨rfl, hb⟩; refine ⟨_, rfl, ?_⟩; have n0_ := Aside0.mk (Kd.R_below (by (with_reducible repeat (first | apply Kd.R_alloc | apply Kd.R_drewN | apply Kd.R_drew)); exact HO117.out) hb); have n1_ := Aside0.mk (below_step (by repeat (first | (with_reducible first | exact HB.out | apply below_alloc | apply pw_below_drewN | apply below_drew1) | exact HB.out)) hb); clear HO117; clear HB; have HO117 := n0_; have HB := n1_; clear n0_ n1_; (try clear hb); (try clear hb2); (try clear hk); (try clear hi); obtain ⟨Ao20, co20, eo20⟩ := Kd.R_slice HO117.out; subst eo20) | (go_at_call 11; (with_reducible refine (report_Place.calls k _ _ y115 0 2 t121 _ ?side1 ?side2 A6.out).mono ?_); (case side1 => repeat (first | exact (Kd.R_reads' HO117.out).2.2 | (with_reducible refine Kd.C_alloc ?_ _) | (with_reducible refine Kd.C_drewN ?_ _) | (with_reducible refine Kd.C_drew ?_))); (case side2 => exact (Kd.R_reads' HO117.out).2.1); rintro e w21 ⟨rfl, hb⟩; have n0_ := Aside0.mk (Kd.R_below (by (with_reducible repeat (first | apply Kd.R_alloc | apply Kd.R_drewN | apply Kd.R_drew)); exact HO117.out) hb); have n1_ := Aside0.mk (below_step (by repeat (first | (with_reducible first | exact HB.out | apply below_alloc | apply pw_below_drewN | apply below_drew1) | exact HB.out)) hb); clear HO117; clear HB; have HO117 := n0_; have HB := n1_; clear n0_ n1_; (try clear hb); (try clear hb2); (try clear hk); (try clear hi)))
          go_ret
          exact ⟨by first | rfl | (simp [errW_none, errW_some] <;> rfl) | (simp [*, errW_none, errW_some] <;> rfl), by repeat (first | (with_reducible first | exact HB.out | apply below_alloc | apply pw_below_drewN | apply below_drew1) | exact HB.out)⟩
      · replace c5 := Bool.eq_false_iff.mpr c5
        subst c5
        have H1 : (some false) = some r := by rw [if_neg (show ¬ (false = true) by decide)] at H; exact H
        clear H
        have H := H1
        clear H1
        obtain rfl := Option.some.inj H
        go_enter Tryd.func6, Tryd.ntmps6
        go_wp2_with (first | ((with_reducible refine gate_dst (N := 5) rfl ?_); refine Kd.R_lit k31 _ 31 ?hg (N := 5) ?hd (xs := ([(⟨(⟨#[97]⟩ : ByteArray), (⟨#[120, 10, 121]⟩ : ByteArray)⟩ : S31)] : List (S31))) (inner := [.string (⟨#[97]⟩ : ByteArray), .string (⟨#[120, 10, 121]⟩ : ByteArray)]) (ok := fun _ => True) (okp := fun _ => True) ?hr ?hp (fun _ hk => hk) trivial (Below.refl _ _) (Nat.le_refl _) (by simp) ?_; (case hd => rfl); (case hg => rfl); (case hr => first | (go_simp; done) | (go_simp; rfl)); (case hp => exact (Reps.c2 (show Kd.M k31 _ _ _ (⟨(⟨#[97]⟩ : ByteArray), (⟨#[120, 10, 121]⟩ : ByteArray)⟩ : S31) [.string (⟨#[97]⟩ : ByteArray), .string (⟨#[120, 10, 121]⟩ : ByteArray)] from (k31_mkM _ _ _ (⟨(⟨#[97]⟩ : ByteArray), (⟨#[120, 10, 121]⟩ : ByteArray)⟩ : S31) )) (Reps.none _ _))); intro v116 w22 ho23 hb hg_ hnew_; clear hg_ hnew_; (first | rw [← Ny115.out] at ho23 | (simp only [Int.reduceToNat] at ho23; rw [← Ny115.out] at ho23)); have n0_ := Aside0.mk (Kd.R_lower ho23 (below_size (by repeat (first | (with_reducible first | exact HB.out | apply below_alloc | apply pw_below_drewN | apply below_drew1) | exact HB.out)))); have n1_ := Aside0.mk (below_step (by repeat (first | (with_reducible first | exact HB.out | apply below_alloc | apply pw_below_drewN | apply below_drew1) | exact HB.out)) hb); clear HB; have HO117 := n0_; have HB := n1_; clear n0_ n1_; clear hb ho23) | ((with_reducible refine gate_callee (f := 8) rfl ?_); refine goesL_ (some 7) rfl rfl Tryd.func8 (by kernel_rfl) rfl #[.string (⟨#[34, 97, 92, 34, 92, 120, 48, 57, 34]⟩ : ByteArray)] rfl (by (try simp only [List.map_toArray, List.map_cons, List.map_nil]); first | done | rfl | (simp only [List.length_drop, List.length_take]; rfl)) ?_; (with_reducible refine (report_Unquote.calls k (⟨#[34, 97, 92, 34, 92, 120, 48, 57, 34]⟩ : ByteArray) t118 false _ A1.out).mono ?_); rintro e w24 ⟨rfl, hb⟩; refine ⟨_, rfl, ?_⟩; have n0_ := Aside0.mk (Kd.R_below (by (with_reducible repeat (first | apply Kd.R_alloc | apply Kd.R_drewN | apply Kd.R_drew)); exact HO117.out) hb); have n1_ := Aside0.mk (below_step (by repeat (first | (with_reducible first | exact HB.out | apply below_alloc | apply pw_below_drewN | apply below_drew1) | exact HB.out)) hb); clear HO117; clear HB; have HO117 := n0_; have HB := n1_; clear n0_ n1_; (try clear hb); (try clear hb2); (try clear hk); (try clear hi)) | ((with_reducible refine gate_callee (f := 7) rfl ?_); refine goesL_ (some 10) rfl rfl Tryd.func7 (by kernel_rfl) rfl #[.string (⟨#[97, 34, 9]⟩ : ByteArray)] rfl (by (try simp only [List.map_toArray, List.map_cons, List.map_nil]); first | done | rfl | (simp only [List.length_drop, List.length_take]; rfl)) ?_; (with_reducible refine (report_Quote.calls (⟨#[97, 34, 9]⟩ : ByteArray) t120 _ A2.out).mono ?_); rintro e w25 ⟨rfl, hb⟩; refine ⟨_, rfl, ?_⟩; have n0_ := Aside0.mk (Kd.R_below (by (with_reducible repeat (first | apply Kd.R_alloc | apply Kd.R_drewN | apply Kd.R_drew)); exact HO117.out) hb); have n1_ := Aside0.mk (below_step (by repeat (first | (with_reducible first | exact HB.out | apply below_alloc | apply pw_below_drewN | apply below_drew1) | exact HB.out)) hb); clear HO117; clear HB; have HO117 := n0_; have HB := n1_; clear n0_ n1_; (try clear hb); (try clear hb2); (try clear hk); (try clear hi)))
        go_ret
        exact ⟨by first | rfl | (simp [errW_none, errW_some] <;> rfl) | (simp [*, errW_none, errW_some] <;> rfl), by repeat (first | (with_reducible first | exact HB.out | apply below_alloc | apply pw_below_drewN | apply below_drew1) | exact HB.out)⟩
    · rw [if_neg c4] at H
      have c4b0 : (t118.toList == ([97, 34, 9] : List UInt8)) = false := beq_eq_false_iff_ne.mpr c4
      have c4b1 : (t118.toList != ([97, 34, 9] : List UInt8)) = true := bne_iff_ne.mpr c4
      obtain rfl := Option.some.inj H
      go_enter Tryd.func6, Tryd.ntmps6
      go_wp2_with (first | ((with_reducible refine gate_dst (N := 5) rfl ?_); refine Kd.R_lit k31 _ 31 ?hg (N := 5) ?hd (xs := ([(⟨(⟨#[97]⟩ : ByteArray), (⟨#[120, 10, 121]⟩ : ByteArray)⟩ : S31)] : List (S31))) (inner := [.string (⟨#[97]⟩ : ByteArray), .string (⟨#[120, 10, 121]⟩ : ByteArray)]) (ok := fun _ => True) (okp := fun _ => True) ?hr ?hp (fun _ hk => hk) trivial (Below.refl _ _) (Nat.le_refl _) (by simp) ?_; (case hd => rfl); (case hg => rfl); (case hr => first | (go_simp; done) | (go_simp; rfl)); (case hp => exact (Reps.c2 (show Kd.M k31 _ _ _ (⟨(⟨#[97]⟩ : ByteArray), (⟨#[120, 10, 121]⟩ : ByteArray)⟩ : S31) [.string (⟨#[97]⟩ : ByteArray), .string (⟨#[120, 10, 121]⟩ : ByteArray)] from (k31_mkM _ _ _ (⟨(⟨#[97]⟩ : ByteArray), (⟨#[120, 10, 121]⟩ : ByteArray)⟩ : S31) )) (Reps.none _ _))); intro v116 w26 ho27 hb hg_ hnew_; clear hg_ hnew_; (first | rw [← Ny115.out] at ho27 | (simp only [Int.reduceToNat] at ho27; rw [← Ny115.out] at ho27)); have n0_ := Aside0.mk (Kd.R_lower ho27 (below_size (by repeat (first | (with_reducible first | exact HB.out | apply below_alloc | apply pw_below_drewN | apply below_drew1) | exact HB.out)))); have n1_ := Aside0.mk (below_step (by repeat (first | (with_reducible first | exact HB.out | apply below_alloc | apply pw_below_drewN | apply below_drew1) | exact HB.out)) hb); clear HB; have HO117 := n0_; have HB := n1_; clear n0_ n1_; clear hb ho27) | ((with_reducible refine gate_callee (f := 8) rfl ?_); refine goesL_ (some 7) rfl rfl Tryd.func8 (by kernel_rfl) rfl #[.string (⟨#[34, 97, 92, 34, 92, 120, 48, 57, 34]⟩ : ByteArray)] rfl (by (try simp only [List.map_toArray, List.map_cons, List.map_nil]); first | done | rfl | (simp only [List.length_drop, List.length_take]; rfl)) ?_; (with_reducible refine (report_Unquote.calls k (⟨#[34, 97, 92, 34, 92, 120, 48, 57, 34]⟩ : ByteArray) t118 t119 _ A1.out).mono ?_); rintro e w28 ⟨rfl, hb⟩; refine ⟨_, rfl, ?_⟩; have n0_ := Aside0.mk (Kd.R_below (by (with_reducible repeat (first | apply Kd.R_alloc | apply Kd.R_drewN | apply Kd.R_drew)); exact HO117.out) hb); have n1_ := Aside0.mk (below_step (by repeat (first | (with_reducible first | exact HB.out | apply below_alloc | apply pw_below_drewN | apply below_drew1) | exact HB.out)) hb); clear HO117; clear HB; have HO117 := n0_; have HB := n1_; clear n0_ n1_; (try clear hb); (try clear hb2); (try clear hk); (try clear hi)) | ((with_reducible refine gate_callee (f := 7) rfl ?_); refine goesL_ (some 10) rfl rfl Tryd.func7 (by kernel_rfl) rfl #[.string (⟨#[97, 34, 9]⟩ : ByteArray)] rfl (by (try simp only [List.map_toArray, List.map_cons, List.map_nil]); first | done | rfl | (simp only [List.length_drop, List.length_take]; rfl)) ?_; (with_reducible refine (report_Quote.calls (⟨#[97, 34, 9]⟩ : ByteArray) t120 _ A2.out).mono ?_); rintro e w29 ⟨rfl, hb⟩; refine ⟨_, rfl, ?_⟩; have n0_ := Aside0.mk (Kd.R_below (by (with_reducible repeat (first | apply Kd.R_alloc | apply Kd.R_drewN | apply Kd.R_drew)); exact HO117.out) hb); have n1_ := Aside0.mk (below_step (by repeat (first | (with_reducible first | exact HB.out | apply below_alloc | apply pw_below_drewN | apply below_drew1) | exact HB.out)) hb); clear HO117; clear HB; have HO117 := n0_; have HB := n1_; clear n0_ n1_; (try clear hb); (try clear hb2); (try clear hk); (try clear hi)))
      go_ret
      exact ⟨by first | rfl | (simp [errW_none, errW_some] <;> rfl) | (simp [*, errW_none, errW_some] <;> rfl), by repeat (first | (with_reducible first | exact HB.out | apply below_alloc | apply pw_below_drewN | apply below_drew1) | exact HB.out)⟩
  · rw [if_neg c3] at H
    have c3b0 : (t120.toList == ([34, 97, 92, 34, 92, 120, 48, 57, 34] : List UInt8)) = false := beq_eq_false_iff_ne.mpr c3
    have c3b1 : (t120.toList != ([34, 97, 92, 34, 92, 120, 48, 57, 34] : List UInt8)) = true := bne_iff_ne.mpr c3
    obtain rfl := Option.some.inj H
    go_enter Tryd.func6, Tryd.ntmps6
    go_wp2_with (first | ((with_reducible refine gate_dst (N := 5) rfl ?_); refine Kd.R_lit k31 _ 31 ?hg (N := 5) ?hd (xs := ([(⟨(⟨#[97]⟩ : ByteArray), (⟨#[120, 10, 121]⟩ : ByteArray)⟩ : S31)] : List (S31))) (inner := [.string (⟨#[97]⟩ : ByteArray), .string (⟨#[120, 10, 121]⟩ : ByteArray)]) (ok := fun _ => True) (okp := fun _ => True) ?hr ?hp (fun _ hk => hk) trivial (Below.refl _ _) (Nat.le_refl _) (by simp) ?_; (case hd => rfl); (case hg => rfl); (case hr => first | (go_simp; done) | (go_simp; rfl)); (case hp => exact (Reps.c2 (show Kd.M k31 _ _ _ (⟨(⟨#[97]⟩ : ByteArray), (⟨#[120, 10, 121]⟩ : ByteArray)⟩ : S31) [.string (⟨#[97]⟩ : ByteArray), .string (⟨#[120, 10, 121]⟩ : ByteArray)] from (k31_mkM _ _ _ (⟨(⟨#[97]⟩ : ByteArray), (⟨#[120, 10, 121]⟩ : ByteArray)⟩ : S31) )) (Reps.none _ _))); intro v116 w30 ho31 hb hg_ hnew_; clear hg_ hnew_; (first | rw [← Ny115.out] at ho31 | (simp only [Int.reduceToNat] at ho31; rw [← Ny115.out] at ho31)); have n0_ := Aside0.mk (Kd.R_lower ho31 (below_size (by repeat (first | (with_reducible first | exact HB.out | apply below_alloc | apply pw_below_drewN | apply below_drew1) | exact HB.out)))); have n1_ := Aside0.mk (below_step (by repeat (first | (with_reducible first | exact HB.out | apply below_alloc | apply pw_below_drewN | apply below_drew1) | exact HB.out)) hb); clear HB; have HO117 := n0_; have HB := n1_; clear n0_ n1_; clear hb ho31) | ((with_reducible refine gate_callee (f := 8) rfl ?_); refine goesL_ (some 7) rfl rfl Tryd.func8 (by kernel_rfl) rfl #[.string (⟨#[34, 97, 92, 34, 92, 120, 48, 57, 34]⟩ : ByteArray)] rfl (by (try simp only [List.map_toArray, List.map_cons, List.map_nil]); first | done | rfl | (simp only [List.length_drop, List.length_take]; rfl)) ?_; (with_reducible refine (report_Unquote.calls k (⟨#[34, 97, 92, 34, 92, 120, 48, 57, 34]⟩ : ByteArray) t118 t119 _ A1.out).mono ?_); rintro e w32 ⟨rfl, hb⟩; refine ⟨_, rfl, ?_⟩; have n0_ := Aside0.mk (Kd.R_below (by (with_reducible repeat (first | apply Kd.R_alloc | apply Kd.R_drewN | apply Kd.R_drew)); exact HO117.out) hb); have n1_ := Aside0.mk (below_step (by repeat (first | (with_reducible first | exact HB.out | apply below_alloc | apply pw_below_drewN | apply below_drew1) | exact HB.out)) hb); clear HO117; clear HB; have HO117 := n0_; have HB := n1_; clear n0_ n1_; (try clear hb); (try clear hb2); (try clear hk); (try clear hi)) | ((with_reducible refine gate_callee (f := 7) rfl ?_); refine goesL_ (some 10) rfl rfl Tryd.func7 (by kernel_rfl) rfl #[.string (⟨#[97, 34, 9]⟩ : ByteArray)] rfl (by (try simp only [List.map_toArray, List.map_cons, List.map_nil]); first | done | rfl | (simp only [List.length_drop, List.length_take]; rfl)) ?_; (with_reducible refine (report_Quote.calls (⟨#[97, 34, 9]⟩ : ByteArray) t120 _ A2.out).mono ?_); rintro e w33 ⟨rfl, hb⟩; refine ⟨_, rfl, ?_⟩; have n0_ := Aside0.mk (Kd.R_below (by (with_reducible repeat (first | apply Kd.R_alloc | apply Kd.R_drewN | apply Kd.R_drew)); exact HO117.out) hb); have n1_ := Aside0.mk (below_step (by repeat (first | (with_reducible first | exact HB.out | apply below_alloc | apply pw_below_drewN | apply below_drew1) | exact HB.out)) hb); clear HO117; clear HB; have HO117 := n0_; have HB := n1_; clear n0_ n1_; (try clear hb); (try clear hb2); (try clear hk); (try clear hi)))
    go_ret
    exact ⟨by first | rfl | (simp [errW_none, errW_some] <;> rfl) | (simp [*, errW_none, errW_some] <;> rfl), by repeat (first | (with_reducible first | exact HB.out | apply below_alloc | apply pw_below_drewN | apply below_drew1) | exact HB.out)⟩

/-! ### orielref25_byteOf: function 17 -/
def orielref25_byteOf.f (a0 : Int) : Option (ByteArray) := some (strOfNums (([(a0) % 256] : List Int)))
set_option maxHeartbeats 8000000 in
set_option maxRecDepth 100000 in
theorem orielref25_byteOf.calls (a0 : Int) (r : ByteArray) (w : World) (h : orielref25_byteOf.f a0 = some r) :
    Calls Tryd.prog 17 #[.int .i64 a0] w fun e w' => e = .returned (.string r) ∧ Below w.heap.size w w' := by
  have HB := Aside0.mk (Below.refl w.heap.size w)
  have H : (some (strOfNums (([(a0) % 256] : List Int)))) = some r := h
  clear h
  obtain ⟨y123, hy123⟩ : ∃ y_ : List Int, y_ = (([(a0) % 256] : List Int)) := ⟨_, rfl⟩
  replace H : (some (strOfNums y123)) = some r := by first | (rw [hy123]; with_reducible exact H) | (have H2_ := (Option.bind_some _ _).symm.trans H; rw [hy123]; with_reducible exact H2_) | (have H2_ := (Option.bind_some _ _).symm.trans H; with_reducible exact H2_) | with_reducible exact H | (rw [hy123]; exact H) | exact H
  have Ny123 := Aside0.mk hy123
  clear hy123
  obtain rfl := Option.some.inj H
  go_enter Tryd.func17, Tryd.ntmps17
  go_wp2_with (first | ((with_reducible refine gate_dst (N := 5) rfl ?_); refine Kd.R_lit (Kd.int .u8) _ 5 ?hg (N := 5) ?hd (xs := ([(a0) % 256] : List Int)) (inner := [.int .u8 ((a0) % 256)]) (ok := fun _ => True) (okp := fun _ => True) ?hr ?hp (fun _ hk => hk) trivial (Below.refl _ _) (Nat.le_refl _) (by simp) ?_; (case hd => rfl); (case hg => rfl); (case hr => first | (go_simp; done) | (go_simp; rfl)); (case hp => exact (Reps.one (show Kd.M (Kd.int .u8) _ _ _ ((a0) % 256) [.int .u8 ((a0) % 256)] from rfl) (Reps.none _ _))); intro v124 w2 ho3 hb hg_ hnew_; clear hg_ hnew_; (first | rw [← Ny123.out] at ho3 | (simp only [Int.reduceToNat] at ho3; rw [← Ny123.out] at ho3)); have n0_ := Aside0.mk (Kd.R_lower ho3 (below_size (by repeat (first | (with_reducible first | exact HB.out | apply below_alloc | apply pw_below_drewN | apply below_drew1) | exact HB.out)))); have n1_ := Aside0.mk (below_step (by repeat (first | (with_reducible first | exact HB.out | apply below_alloc | apply pw_below_drewN | apply below_drew1) | exact HB.out)) hb); clear HB; have HO125 := n0_; have HB := n1_; clear n0_ n1_; clear hb ho3; have hcv4 := own_string (P := Tryd.prog) Tryd.underlying37 Tryd.underlying5 Tryd.underlying9 (Kd.own_of_R HO125.out)))
  go_ret
  exact ⟨by first | rfl | (simp [errW_none, errW_some] <;> rfl) | (simp [*, errW_none, errW_some] <;> rfl), by repeat (first | (with_reducible first | exact HB.out | apply below_alloc | apply pw_below_drewN | apply below_drew1) | exact HB.out)⟩

/-! ### orielref25_digit: function 18 -/
def orielref25_digit.f (a0 : Int) : Option (ByteArray) := if a0 < 10 then ((orielref25_byteOf.f (wrap64 (48 + a0))).bind fun t126 => (some t126)) else ((orielref25_byteOf.f (wrap64 (87 + a0))).bind fun t127 => (some t127))
set_option maxHeartbeats 8000000 in
set_option maxRecDepth 100000 in
theorem orielref25_digit.calls (a0 : Int) (r : ByteArray) (w : World) (h : orielref25_digit.f a0 = some r) :
    Calls Tryd.prog 18 #[.int .i64 a0] w fun e w' => e = .returned (.string r) ∧ Below w.heap.size w w' := by
  have HB := Aside0.mk (Below.refl w.heap.size w)
  have H : (if a0 < 10 then ((orielref25_byteOf.f (wrap64 (48 + a0))).bind fun t126 => (some t126)) else ((orielref25_byteOf.f (wrap64 (87 + a0))).bind fun t127 => (some t127))) = some r := h
  clear h
  by_cases c2 : a0 < 10
  · rw [if_pos c2] at H
    have c2b0 : decide (a0 < 10) = true := decide_eq_true c2
    clear c2
    replace H := Option.bind_eq_some_iff.mp H
    obtain ⟨t126, A30, H⟩ := H
    replace H : (some t126) = some r := H
    have A3 := Aside0.mk A30
    clear A30
    obtain rfl := Option.some.inj H
    go_enter Tryd.func18, Tryd.ntmps18
    go_wp2_with (first | ((with_reducible refine gate_callee (f := 17) rfl ?_); refine goesL_ (some 7) rfl rfl Tryd.func17 (by kernel_rfl) rfl #[.int .i64 (wrap64 (48 + a0))] rfl (by (try simp only [List.map_toArray, List.map_cons, List.map_nil]); first | done | rfl | (simp only [List.length_drop, List.length_take]; rfl)) ?_; (with_reducible refine (orielref25_byteOf.calls (wrap64 (48 + a0)) t126 _ A3.out).mono ?_); rintro e w4 ⟨rfl, hb⟩; refine ⟨_, rfl, ?_⟩; have n0_ := Aside0.mk (below_step (by repeat (first | (with_reducible first | exact HB.out | apply below_alloc | apply pw_below_drewN | apply below_drew1) | exact HB.out)) hb); clear HB; have HB := n0_; clear n0_; (try clear hb); (try clear hb2); (try clear hk); (try clear hi)))
    go_ret
    exact ⟨by first | rfl | (simp [errW_none, errW_some] <;> rfl) | (simp [*, errW_none, errW_some] <;> rfl), by repeat (first | (with_reducible first | exact HB.out | apply below_alloc | apply pw_below_drewN | apply below_drew1) | exact HB.out)⟩
  · rw [if_neg c2] at H
    have c2b0 : decide (a0 < 10) = false := decide_eq_false c2
    clear c2
    replace H := Option.bind_eq_some_iff.mp H
    obtain ⟨t127, A50, H⟩ := H
    replace H : (some t127) = some r := H
    have A5 := Aside0.mk A50
    clear A50
    obtain rfl := Option.some.inj H
    go_enter Tryd.func18, Tryd.ntmps18
    go_wp2_with (first | ((with_reducible refine gate_callee (f := 17) rfl ?_); refine goesL_ (some 10) rfl rfl Tryd.func17 (by kernel_rfl) rfl #[.int .i64 (wrap64 (87 + a0))] rfl (by (try simp only [List.map_toArray, List.map_cons, List.map_nil]); first | done | rfl | (simp only [List.length_drop, List.length_take]; rfl)) ?_; (with_reducible refine (orielref25_byteOf.calls (wrap64 (87 + a0)) t127 _ A5.out).mono ?_); rintro e w6 ⟨rfl, hb⟩; refine ⟨_, rfl, ?_⟩; have n0_ := Aside0.mk (below_step (by repeat (first | (with_reducible first | exact HB.out | apply below_alloc | apply pw_below_drewN | apply below_drew1) | exact HB.out)) hb); clear HB; have HB := n0_; clear n0_; (try clear hb); (try clear hb2); (try clear hk); (try clear hi)))
    go_ret
    exact ⟨by first | rfl | (simp [errW_none, errW_some] <;> rfl) | (simp [*, errW_none, errW_some] <;> rfl), by repeat (first | (with_reducible first | exact HB.out | apply below_alloc | apply pw_below_drewN | apply below_drew1) | exact HB.out)⟩

end Go.Proofs.YtnlbmnlmfbihlaaDoor.QC
