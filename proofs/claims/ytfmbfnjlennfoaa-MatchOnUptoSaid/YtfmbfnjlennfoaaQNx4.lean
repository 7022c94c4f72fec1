-- Laid by this claim's own program (mprint.py in the repo).
import Derived.Test.YtfmbfnjlennfoaaQNx0
import Derived.Test.YtfmbfnjlennfoaaQNx3
namespace Go.Proofs.Ytfmbfnjlennfoaa.QN
open Go.RowKit Go.Proofs.YtfmbfnjlennfoaaW.PrintWords Go.Proofs.YtfmbfnjlennfoaaW.PrintLast Go.Proofs.YtfmbfnjlennfoaaW.PrintMore
attribute [local go_sem] max2_int min2_int max_two min_two max_three min_three max_four min_four   -- for this text's walks alone
set_option linter.unusedVariables false
set_option linter.unusedSimpArgs false

/-! ### oriellaw01_Ints: function 13 -/
def oriellaw01_Ints.l0 : Nat → List Int → List Int → Int → Int → Option (Bool)
  | 0, _, _, _, _ => none
  | k + 1, x0, x1, x12, x13 => if x13 < x12 then (if 0 ≤ x13 then (if x13 < (x0.length : Int) then (if x13 < (x1.length : Int) then (if (rd x0 x13) = (rd x1 x13) then (oriellaw01_Ints.l0 k x0 x1 x12 (wrap64 (x13 + 1))) else (some false)) else (none)) else (none)) else (none)) else (some true)
def oriellaw01_Ints.f (k : Nat) (l0 : List Int) (l1 : List Int) : Option (Bool) := if (l0.length : Int) = (l1.length : Int) then (oriellaw01_Ints.l0 k l0 l1 (l0.length : Int) 0) else (some false)
theorem oriellaw01_Ints.mono_l : ∀ k, (∀ y0 y1 y2 y3, LeO (oriellaw01_Ints.l0 k y0 y1 y2 y3) (oriellaw01_Ints.l0 (k + 1) y0 y1 y2 y3))
  | 0 => fun _ _ _ _ r h => by simp [oriellaw01_Ints.l0] at h
  | k + 1 => by
    have ih0 := oriellaw01_Ints.mono_l k
    · intro y0 y1 y2 y3
      unfold oriellaw01_Ints.l0
      repeat' first
      | (with_reducible exact ih0 _ _ _ _)
      | (with_reducible exact LeO.refl _)
      | (with_reducible exact LeO.none _)
      | (with_reducible refine LeO.ite ?_ ?_)
      | (with_reducible refine LeO.bind ?_ (fun _ => ?_))
      | exact ih0 _ _ _ _
      | exact LeO.none _
      | refine LeO.ite ?_ ?_
      | refine LeO.bind ?_ (fun _ => ?_)
theorem oriellaw01_Ints.mono : ∀ a0 a1 k, LeO (oriellaw01_Ints.f k a0 a1) (oriellaw01_Ints.f (k + 1) a0 a1) := by
  intro a0 a1 k
  have ih0 := oriellaw01_Ints.mono_l k
  unfold oriellaw01_Ints.f
  repeat' first
      | (with_reducible exact ih0 _ _ _ _)
      | (with_reducible exact LeO.refl _)
      | (with_reducible exact LeO.none _)
      | (with_reducible refine LeO.ite ?_ ?_)
      | (with_reducible refine LeO.bind ?_ (fun _ => ?_))
      | exact ih0 _ _ _ _
      | exact LeO.none _
      | refine LeO.ite ?_ ?_
      | refine LeO.bind ?_ (fun _ => ?_)
set_option maxHeartbeats 8000000 in
set_option maxRecDepth 100000 in
theorem oriellaw01_Ints.calls (k : Nat) (A0 : Option Addr) (c0 : Nat) (l0 : List Int) (A1 : Option Addr) (c1 : Nat) (l1 : List Int) (r : Bool) (w : World) (hr0 : Kd.C (Kd.int .i64) w A0 l0.length l0) (hc0 : l0.length ≤ c0) (hr1 : Kd.C (Kd.int .i64) w A1 l1.length l1) (hc1 : l1.length ≤ c1) (h : oriellaw01_Ints.f k l0 l1 = some r) :
    Calls Try.prog 13 #[.slice A0 l0.length c0, .slice A1 l1.length c1] w fun e w' => e = .returned (.bool r) ∧ Drawn0 w w' := by
  have HR0 := Aside0.mk hr0
  have HC0 := Aside0.mk hc0
  clear hr0 hc0
  have HR1 := Aside0.mk hr1
  have HC1 := Aside0.mk hc1
  clear hr1 hc1
  have H : (if (l0.length : Int) = (l1.length : Int) then (oriellaw01_Ints.l0 k l0 l1 (l0.length : Int) 0) else (some false)) = some r := h
  clear h
  by_cases c3 : (l0.length : Int) = (l1.length : Int)
  · rw [if_pos c3] at H
    have c3b0 : ((l0.length : Int) == (l1.length : Int)) = true := beq_iff_eq.mpr c3
    have c3b1 : ((l0.length : Int) != (l1.length : Int)) = false := bne_eq_false_iff_eq.mpr c3
    have c3b2 : (l0.length == l1.length) = true := by first | simpa using c3 | (simp at c3 ⊢; omega)
    clear c3
    have H' := Aside0.mk H
    clear H
    go_enter Try.func13, Try.ntmps13
    go_wp2
    repeat (go_quiet (fail); try go_wp2)
    go_loopg [13] k (fun kq v13 w' => ∃ (x13_1 : Int), v13 = .int .i64 x13_1 ∧ Aside0 (oriellaw01_Ints.l0 kq l0 l1 (l0.length : Int) x13_1 = some r) ∧ Aside0 (kq ≤ k) ∧ Drawn0 w w')
    case atStart => exact ⟨(0), (by first | rfl | (simp; done) | (simp [*]; done)), H', ⟨Nat.le_refl _⟩, by repeat (first | exact Drawn0.refl _ | apply Drawn0.step)⟩
    case round =>
      clear H'
      try clear c1
      try clear p2
      try clear c3
      try clear c3b0
      try clear c3b1
      try clear c3b2
      obtain ⟨x13_1, rfl, HA, HK1, ⟨m1, rfl⟩⟩ := hrel
      cases gk with
      | zero => exact absurd HA.out (by simp [oriellaw01_Ints.l0])
      | succ k1 =>
        have H := HA.out
        clear HA
        simp only [oriellaw01_Ints.l0] at H
        by_cases c4 : x13_1 < (l0.length : Int)
        · rw [if_pos c4] at H
          have c4b0 : decide (x13_1 < (l0.length : Int)) = true := decide_eq_true c4
          clear c4
          by_cases c5 : 0 ≤ x13_1
          · rw [if_pos c5] at H
            have c5b0 : decide (0 ≤ x13_1) = true := decide_eq_true c5
            clear c5
            by_cases c6 : x13_1 < (l0.length : Int)
            · rw [if_pos c6] at H
              have c6b0 : decide (x13_1 < (l0.length : Int)) = true := decide_eq_true c6
              clear c6
              by_cases c7 : x13_1 < (l1.length : Int)
              · rw [if_pos c7] at H
                have c7b0 : decide (x13_1 < (l1.length : Int)) = true := decide_eq_true c7
                clear c7
                by_cases c8 : (rd l0 x13_1) = (rd l1 x13_1)
                · rw [if_pos c8] at H
                  have c8b0 : ((rd l0 x13_1) == (rd l1 x13_1)) = true := beq_iff_eq.mpr c8
                  have c8b1 : ((rd l0 x13_1) != (rd l1 x13_1)) = false := bne_eq_false_iff_eq.mpr c8
                  clear c8
                  have H' := Aside0.mk H
                  clear H
                  have p108 : 0 ≤ (x13_1 : Int) := of_decide_eq_true (by first | (with_reducible assumption) | assumption)
                  have q108 : x13_1 < (l0.length : Int) := of_decide_eq_true (by first | (with_reducible assumption) | assumption)
                  obtain ⟨ad108, e108, hx108_0⟩ := Kd.at_int HR0.out x13_1 p108 q108
                  cases e108
                  replace p108 := eq_true p108
                  replace q108 := eq_true q108
                  have p109 : 0 ≤ (x13_1 : Int) := of_decide_eq_true (by first | (with_reducible assumption) | assumption)
                  have q109 : x13_1 < (l1.length : Int) := of_decide_eq_true (by first | (with_reducible assumption) | assumption)
                  obtain ⟨ad109, e109, hx109_0⟩ := Kd.at_int HR1.out x13_1 p109 q109
                  cases e109
                  replace p109 := eq_true p109
                  replace q109 := eq_true q109
                  go_wp2
                  repeat (go_quiet (fail); try go_wp2)
                  go_roundg k1
                  case measure => have := HK1.out; omega
                  case rel => exact ⟨(wrap64 (x13_1 + 1)), (by first | rfl | (simp; done) | (simp [*]; done)), H', ⟨by have := HK1.out; omega⟩, by repeat (first | exact Drawn0.refl _ | apply Drawn0.step)⟩
                · rw [if_neg c8] at H
                  have c8b0 : ((rd l0 x13_1) == (rd l1 x13_1)) = false := beq_eq_false_iff_ne.mpr c8
                  have c8b1 : ((rd l0 x13_1) != (rd l1 x13_1)) = true := bne_iff_ne.mpr c8
                  obtain rfl := Option.some.inj H
                  have p108 : 0 ≤ (x13_1 : Int) := of_decide_eq_true (by first | (with_reducible assumption) | assumption)
                  have q108 : x13_1 < (l0.length : Int) := of_decide_eq_true (by first | (with_reducible assumption) | assumption)
                  obtain ⟨ad108, e108, hx108_0⟩ := Kd.at_int HR0.out x13_1 p108 q108
                  cases e108
                  replace p108 := eq_true p108
                  replace q108 := eq_true q108
                  have p109 : 0 ≤ (x13_1 : Int) := of_decide_eq_true (by first | (with_reducible assumption) | assumption)
                  have q109 : x13_1 < (l1.length : Int) := of_decide_eq_true (by first | (with_reducible assumption) | assumption)
                  obtain ⟨ad109, e109, hx109_0⟩ := Kd.at_int HR1.out x13_1 p109 q109
                  cases e109
                  replace p109 := eq_true p109
                  replace q109 := eq_true q109
                  go_wp2
                  repeat (go_quiet (fail); try go_wp2)
                  go_ret
                  exact ⟨by first | rfl | (simp; done) | (simp [*]; done), by repeat (first | exact Drawn0.refl _ | apply Drawn0.step)⟩
              · rw [if_neg c7] at H
                exact absurd H (by simp)
            · rw [if_neg c6] at H
              exact absurd H (by simp)
          · rw [if_neg c5] at H
            exact absurd H (by simp)
        · rw [if_neg c4] at H
          have c4b0 : decide (x13_1 < (l0.length : Int)) = false := decide_eq_false c4
          clear c4
          obtain rfl := Option.some.inj H
          go_wp2
          repeat (go_quiet (fail); try go_wp2)
          go_ret
          exact ⟨by first | rfl | (simp; done) | (simp [*]; done), by repeat (first | exact Drawn0.refl _ | apply Drawn0.step)⟩
  · rw [if_neg c3] at H
    have c3b0 : ((l0.length : Int) == (l1.length : Int)) = false := beq_eq_false_iff_ne.mpr c3
    have c3b1 : ((l0.length : Int) != (l1.length : Int)) = true := bne_iff_ne.mpr c3
    have c3b2 : (l0.length == l1.length) = false := by first | simpa using c3 | (simp at c3 ⊢; omega)
    obtain rfl := Option.some.inj H
    go_enter Try.func13, Try.ntmps13
    go_wp2
    repeat (go_quiet (fail); try go_wp2)
    go_ret
    exact ⟨by first | rfl | (simp; done) | (simp [*]; done), by repeat (first | exact Drawn0.refl _ | apply Drawn0.step)⟩

/-! ### match_Class: function 14 -/
theorem where_info : (Try.prog.info? 3).map (fun i => (i.zero, i.size, i.bytes)) = some (some (.int .i64 0), 1, 8) := by kernel_rfl
theorem where_tok (w : World) (base : Nat) (ok : Nat → Prop) (i : Int) : (Kd.int .i64).M w base ok i [.int .i64 i] := rfl
def inB (i n : Int) : Bool := decide (0 ≤ i) && decide (i < n)
theorem drop_at (L : List S42) (j : Nat) (h : j < L.length) : L.drop j = rd_T42 L (j : Int) :: L.drop (j + 1) := by
  rw [List.drop_eq_getElem_cons h]
  congr 1
  show _ = L.getD j _
  rw [List.getD_eq_getElem?_getD, List.getElem?_eq_getElem h]
  rfl
theorem inB_true {i n : Int} (h : inB i n = true) : 0 ≤ i ∧ i < n := by simpa [inB] using h
def okL (L : List S42) : Bool := L.all fun p => okI p.f0 && okI p.f1
theorem rd_all (E : List Int) (h : E.all okI = true) (i : Int) (h0 : 0 ≤ i) (h1 : i < E.length) : okI (rd E i) = true := by
  have hi : i.toNat < E.length := by omega
  have : rd E i ∈ E := by
    unfold rd
    rw [List.getD_eq_getElem?_getD, List.getElem?_eq_getElem hi]
    exact List.getElem_mem hi
  exact List.all_eq_true.1 h _ this
theorem okL_at (L : List S42) (h : okL L = true) (i : Int) (h0 : 0 ≤ i) (h1 : i < L.length) : okI (rd_T42 L i).f0 = true ∧ okI (rd_T42 L i).f1 = true := by
  have hi : i.toNat < L.length := by omega
  have : rd_T42 L i ∈ L := by
    unfold rd_T42
    rw [List.getD_eq_getElem?_getD, List.getElem?_eq_getElem hi]
    exact List.getElem_mem hi
  have := List.all_eq_true.1 h _ this
  simpa using this

def rootG : Nat → List Int → Int → Int
  | 0, _, i => i
  | f + 1, T, i => if rd T i = i then i else rootG f T (rd T i)
/-- Where a number's way up ends. -/
def rootF (T : List Int) (i : Int) : Int := rootG (i.toNat + 1) T i
def UF (T : List Int) : Prop := ∀ j : Int, 0 ≤ j → j < T.length → 0 ≤ rd T j ∧ rd T j ≤ j
theorem rootG_same (T : List Int) (hU : UF T) : ∀ (f g : Nat) (m : Int), 0 ≤ m → m < T.length → m.toNat < f → m.toNat < g → rootG f T m = rootG g T m
  | 0, _, _, _, _, h, _ => by omega
  | _ + 1, 0, _, _, _, _, h => by omega
  | f + 1, g + 1, m, h0, h1, hf, hg => by
    rw [rootG, rootG]
    by_cases e : rd T m = m
    · rw [if_pos e, if_pos e]
    · rw [if_neg e, if_neg e]
      have hu := hU m h0 h1
      exact rootG_same T hU f g (rd T m) hu.1 (by omega) (by omega) (by omega)
theorem rootF_eq (T : List Int) (hU : UF T) (m : Int) (h0 : 0 ≤ m) (h1 : m < T.length) : rootF T m = if rd T m = m then m else rootF T (rd T m) := by
  unfold rootF
  rw [rootG]
  by_cases e : rd T m = m
  · rw [if_pos e, if_pos e]
  · rw [if_neg e, if_neg e]
    have hu := hU m h0 h1
    exact rootG_same T hU _ _ (rd T m) hu.1 (by omega) (by omega) (by omega)
theorem rootG_le (T : List Int) (hU : UF T) : ∀ (f : Nat) (m : Int), 0 ≤ m → m < T.length → 0 ≤ rootG f T m ∧ rootG f T m ≤ m
  | 0, m, h0, h1 => ⟨h0, Int.le_refl _⟩
  | f + 1, m, h0, h1 => by
    rw [rootG]
    by_cases e : rd T m = m
    · rw [if_pos e]
      exact ⟨h0, Int.le_refl _⟩
    · rw [if_neg e]
      have hu := hU m h0 h1
      have := rootG_le T hU f (rd T m) hu.1 (by omega)
      omega
theorem rootF_le (T : List Int) (hU : UF T) (m : Int) (h0 : 0 ≤ m) (h1 : m < T.length) : 0 ≤ rootF T m ∧ rootF T m ≤ m := rootG_le T hU _ m h0 h1
set_option maxHeartbeats 4000000 in
set_option maxRecDepth 100000 in
theorem class_root (Bt : Nat) (A : Option Addr) (c : Nat) (T : List Int) (n : Nat) (hn : T.length = n) (i : Int) (w : World)
    (hg : w.cell? ⟨Bt, 0, none⟩ = some (.slice A n c)) (hC : Kd.C (Kd.int .i64) w A T.length T) (hU : UF T) (h0 : 0 ≤ i) (h1 : i < n) :
    Calls Try.prog 26 #[.int .i64 i, .pointer (some ⟨Bt, 0, none⟩)] w fun e w' => e = .returned (.int .i64 (rootF T i)) ∧ Drawn0 w w' := by
  have hu24 := Try.underlying44
  obtain ⟨R, hR⟩ : ∃ R, rootF T i = R := ⟨_, rfl⟩
  rw [hR]
  have HR0 := Lib.hid hR
  have HU := Lib.hid hU
  have HN := Lib.hid hn
  have HC := Aside0.mk hC
  have HG := Aside0.mk hg
  clear hR hU hn hC hg
  go_enter Try.func26, Try.ntmps26
  go_wp2
  go_loopg [0] i.toNat (fun gg s0 wr => ∃ m : Int, s0 = .int .i64 m ∧ 0 ≤ m ∧ m < n ∧ m.toNat ≤ gg ∧ Hid (rootF T m = R) ∧ Aside0 (Drawn0 w wr))
  case atStart => exact ⟨i, rfl, h0, h1, Nat.le_refl _, HR0, ⟨Drawn0.refl _⟩⟩
  case round =>
    clear HR0
    obtain ⟨m, rfl, hm0, hm1, hmg, HR, HD⟩ := hrel
    have hg := pw_cell_below HD.out.below HG.out
    obtain ⟨ad, ead, hx0⟩ := Kd.at_int (Kd.C_below HC.out HD.out.below) m hm0 (by rw [HN.out]; exact hm1)
    cases ead
    have hu := HU.out m hm0 (by rw [HN.out]; exact hm1)
    have hr := HR.out
    rw [rootF_eq T HU.out m hm0 (by rw [HN.out]; exact hm1)] at hr
    have HR2 := Lib.hid hr
    clear hr HR
    generalize rd T m = x at *
    by_cases hxm : x = m
    · subst hxm
      have hr : x = R := by have := HR2.out; rw [if_pos rfl] at this; exact this
      subst hr
      clear HR2
      go_wp2
      go_ret
      exact ⟨rfl, HD.out⟩
    · have bxm : (x == m) = false := beq_eq_false_iff_ne.2 hxm
      have HR3 := Lib.hid (show rootF T x = R by have := HR2.out; rw [if_neg hxm] at this; exact this)
      clear HR2
      go_wp2
      go_roundg x.toNat
      case measure => omega
      case rel => exact ⟨x, rfl, hu.1, by omega, Nat.le_refl _, HR3, HD⟩
set_option maxHeartbeats 4000000 in
set_option maxRecDepth 100000 in
theorem class_in (Bn : Nat) (n : Int) (i : Int) (w : World) (hg : w.cell? ⟨Bn, 0, none⟩ = some (.int .i64 n)) :
    Calls Try.prog 27 #[.int .i64 i, .pointer (some ⟨Bn, 0, none⟩)] w fun e w' => e = .returned (.bool (inB i n)) ∧ Drawn0 w w' := by
  unfold inB
  by_cases h0 : 0 ≤ i
  · by_cases h1 : i < n
    · go_enter Try.func27, Try.ntmps27
      go_wp2
      go_ret
      exact ⟨by simp [h0, h1], Drawn0.refl _⟩
    · go_enter Try.func27, Try.ntmps27
      go_wp2
      go_ret
      exact ⟨by simp [h0, h1], Drawn0.refl _⟩
  · go_enter Try.func27, Try.ntmps27
    go_wp2
    go_ret
    exact ⟨by have h2 : ¬ 0 ≤ i := by omega
              simp [h2], Drawn0.refl _⟩
/-- A pair's two numbers have one root. -/
def clsStep (n : Int) (T : List Int) (p : S42) : List Int :=
  if inB p.f0 n && inB p.f1 n then T.set (max (rootF T p.f0) (rootF T p.f1)).toNat (min (rootF T p.f0) (rootF T p.f1)) else T
def clsLoop (n : Int) : List Int → List S42 → List Int
  | T, [] => T
  | T, p :: r => clsLoop n (clsStep n T p) r
def clsFin : Nat → Nat → List Int → List Int
  | 0, _, T => T
  | k + 1, j, T => clsFin k (j + 1) (T.set j (rootF T (j : Int)))
def idL (m : Nat) : List Int := (List.range m).map (fun (i : Nat) => (i : Int))
def match_Class.f (n : Int) (L : List S42) : Option (List Int) := if n > 16777216 then some [] else some (clsFin n.toNat 0 (clsLoop n (idL n.toNat) L))
theorem idL_succ (m : Nat) : idL (m + 1) = idL m ++ [(m : Int)] := by
  unfold idL
  rw [List.range_succ, List.map_append]
  rfl
theorem idL_len (m : Nat) : (idL m).length = m := by simp [idL]
theorem rd_set (T : List Int) (j : Nat) (hj : j < T.length) (v : Int) (i : Int) (h0 : 0 ≤ i) : rd (T.set j v) i = if i = j then v else rd T i := by
  show (T.set j v).getD i.toNat _ = if i = j then v else T.getD i.toNat _
  rw [List.getD_eq_getElem?_getD, List.getElem?_set]
  by_cases e : i = j
  · subst e
    rw [if_pos rfl, Int.toNat_natCast, if_pos rfl, if_pos hj]
    rfl
  · rw [if_neg e, if_neg (by omega), List.getD_eq_getElem?_getD]
theorem uf_set (T : List Int) (hU : UF T) (j : Nat) (hj : j < T.length) (v : Int) (h0 : 0 ≤ v) (h1 : v ≤ j) : UF (T.set j v) := by
  intro i hi0 hi1
  rw [rd_set T j hj v i hi0]
  rw [List.length_set] at hi1
  by_cases e : i = j
  · rw [if_pos e]
    omega
  · rw [if_neg e]
    exact hU i hi0 hi1
theorem uf_id (m : Nat) : UF (idL m) := by
  intro i h0 h1
  rw [idL_len] at h1
  have : rd (idL m) i = i := by
    show (idL m).getD i.toNat _ = i
    unfold idL
    rw [List.getD_eq_getElem?_getD, List.getElem?_map, List.getElem?_range (by omega)]
    show ((i.toNat : Nat) : Int) = i
    omega
  rw [this]
  omega
theorem cls_stepT (n : Int) (T : List Int) (p : S42) (h0 : inB p.f0 n = true) (h1 : inB p.f1 n = true) : clsStep n T p = T.set (max (rootF T p.f0) (rootF T p.f1)).toNat (min (rootF T p.f0) (rootF T p.f1)) := by
  unfold clsStep
  rw [h0, h1]
  rfl
theorem cls_stepF (n : Int) (T : List Int) (p : S42) (h : inB p.f0 n = false ∨ inB p.f1 n = false) : clsStep n T p = T := by
  unfold clsStep
  rw [if_neg (by rcases h with h | h <;> simp [h])]
theorem cls_quiet (Bn : Nat) (n : Int) (i : Int) (r : Bool) (w : World) (k : Nat) (hg : w.cell? ⟨Bn, 0, none⟩ = some (.int .i64 n)) (hr : inB i n = r) :
    Calls Try.prog 27 #[.int .i64 i, .pointer (some ⟨Bn, 0, none⟩)] (w.drewN k) fun e w'' => e = .returned (.bool r) ∧ ∃ m, w'' = w.drewN m :=
  Calls.quiet_of ((class_in Bn n i (w.drewN k) hg).mono fun e w' h => ⟨by rw [h.1, hr], h.2.out⟩)
theorem root_quiet (Bt : Nat) (A : Option Addr) (c : Nat) (T : List Int) (n : Nat) (hn : T.length = n) (i r : Int) (w : World) (k : Nat)
    (hg : w.cell? ⟨Bt, 0, none⟩ = some (.slice A n c)) (hC : Kd.C (Kd.int .i64) w A T.length T) (hU : UF T) (h0 : 0 ≤ i) (h1 : i < n) (hr : rootF T i = r) :
    Calls Try.prog 26 #[.int .i64 i, .pointer (some ⟨Bt, 0, none⟩)] (w.drewN k) fun e w'' => e = .returned (.int .i64 r) ∧ ∃ m, w'' = w.drewN m :=
  Calls.quiet_of ((class_root Bt A c T n hn i (w.drewN k) hg (Kd.C_drewN hC k) hU h0 h1).mono fun e w' h => ⟨by rw [h.1, hr], h.2.out⟩)
theorem cls_plain (Bn : Nat) (n : Int) (i : Int) (r : Bool) (w : World) (hg : w.cell? ⟨Bn, 0, none⟩ = some (.int .i64 n)) (hr : inB i n = r) :
    Calls Try.prog 27 #[.int .i64 i, .pointer (some ⟨Bn, 0, none⟩)] w fun e w'' => e = .returned (.bool r) ∧ Drawn0 w w'' :=
  (class_in Bn n i w hg).mono fun e w' h => ⟨by rw [h.1, hr], h.2⟩
theorem cls_E : ∀ q, q ∈ 3 :: (Kd.int .i64).E → q ≠ 44 := by
  intro q hq
  rcases List.mem_cons.1 hq with rfl | h
  · decide
  · cases h
theorem cls_info : (Try.prog.info? 3).map (·.size) = some 1 := by kernel_rfl
set_option maxHeartbeats 8000000 in
set_option maxRecDepth 100000 in
theorem match_Class.calls (a0 : Int) (A1 : Option Addr) (c1 : Nat) (l1 : List S42) (r : List Int) (w : World) (hr1 : Kd.C k42 w A1 l1.length l1) (hc1 : l1.length ≤ c1) (h : match_Class.f a0 l1 = some r) :
    Calls Try.prog 14 #[.int .i64 a0, .slice A1 l1.length c1] w fun e w' => ∃ v0_ : Value, e = .returned (v0_) ∧ Kd.R (Kd.int .i64) 3 w' w.heap.size (fun _ => True) v0_ r ∧ Below w.heap.size w w' := by
  have hu24 := Try.underlying44
  have hu34 := Try.underlying42
  have hu22 := Try.underlying25
  unfold match_Class.f at h
  have HC := Aside0.mk hr1
  have hmx := Kd.C_max hr1
  clear hr1
  by_cases hn : a0 > 16777216
  · rw [if_pos hn] at h
    obtain rfl := Option.some.inj h
    have hn2 : 16777216 < a0 := hn
    clear h
    go_enter Try.func14, Try.ntmps14
    go_wp2
    go_ret
    exact ⟨_, rfl, Kd.R_nil _ _ _ _ _, below_alloc (Below.refl _ _) _⟩
  · rw [if_neg hn] at h
    obtain rfl := Option.some.inj h
    clear h
    have hn2 : ¬ 16777216 < a0 := hn
    obtain ⟨m, hm⟩ : ∃ m : Nat, a0.toNat = m := ⟨_, rfl⟩
    rw [hm]
    have hmle : m ≤ 16777216 := by omega
    obtain ⟨nL, hnL⟩ : ∃ nL, l1.length = nL := ⟨_, rfl⟩
    rw [hnL] at hmx hc1 ⊢
    have HNL := Lib.hid hnL
    clear hnL
    obtain ⟨W2, hW2⟩ : ∃ W2, (w.alloc (.cells #[.int .i64 a0] 3)).alloc (.cells #[.slice none 0 0] 44) = W2 := ⟨_, rfl⟩
    have HW2 := Lib.hid hW2
    have HB2 := Aside0.mk (show Below w.heap.size w W2 by rw [← hW2]; exact below_alloc (below_alloc (Below.refl _ _) _) _)
    have hk1 : W2.heap[w.heap.size]? = some (.cells #[.int .i64 a0] 3 (0, 0)) := by rw [← hW2]; exact blk_alloc (blk_new w _) _
    have hk2 : W2.heap[w.heap.size + 1]? = some (.cells #[.slice none 0 0] 44 (0, 0)) := by
      rw [← hW2]
      have := blk_new (w.alloc (.cells #[.int .i64 a0] 3)) (.cells #[.slice none 0 0] 44)
      simpa only [World.size_alloc] using this
    have hsz : W2.heap.size = w.heap.size + 2 := by rw [← hW2]; simp
    have HI0 := Aside0.mk (show W2.heap[w.heap.size]? = some (.cells #[.int .i64 a0] 3 (0, 0)) ∧ W2.heap[w.heap.size + 1]? = some (.cells #[.slice none 0 0] 44 (0, 0)) ∧ w.heap.size + 2 ≤ W2.heap.size from ⟨hk1, hk2, by omega⟩)
    clear hW2 hk1 hk2 hsz
    obtain ⟨RES, hRES⟩ : ∃ RES, clsFin m 0 (clsLoop a0 (idL m) l1) = RES := ⟨_, rfl⟩
    rw [hRES]
    have HRES := Lib.hid hRES
    clear hRES
    have HM : Hid (a0.toNat = m) := Lib.hid hm
    clear hm
    go_enter Try.func14, Try.ntmps14
    go_wp2_with fail
    all_goals rw [HW2.out]
    all_goals have hm := HM.out
    all_goals
      go_loopg [6, 18] m (fun gg _ s18 wr => ∃ (i : Nat) (v : Value), s18 = .int .i64 i ∧ i ≤ m ∧ m - i ≤ gg ∧ Aside0 (wr.heap[w.heap.size]? = some (.cells #[.int .i64 a0] 3 (0, 0)) ∧ wr.heap[w.heap.size + 1]? = some (.cells #[v] 44 (0, 0)) ∧ w.heap.size + 2 ≤ wr.heap.size) ∧ Aside0 (Kd.R (Kd.int .i64) 3 wr (w.heap.size + 2) (fun _ => True) v (idL i)) ∧ Aside0 (Below w.heap.size w wr))
      case atStart => exact ⟨0, _, rfl, by omega, by omega, HI0, ⟨Kd.R_nil _ _ _ _ _⟩, HB2⟩
      case round =>
        clear HI0 HB2
        obtain ⟨i, v, rfl, hi, hgi, HH, HO, HB⟩ := hrel
        by_cases hlt : i < m
        · first
          | omega
          | (have hltz : (i : Int) < a0 := by omega
             have q2 : wr.cell? ⟨w.heap.size + 1, 0, none⟩ = some v := mb_cell1 HH.out.2.1
             have hll : (idL i).length = i := idL_len i
             have HS := Lib.hid (idL_succ i)
             obtain ⟨l, hl⟩ : ∃ l, idL i = l := ⟨_, rfl⟩
             rw [hl] at HO hll HS
             clear hl
             go_wp2_with (at_builtin; refine Kd.R_append (Kd.int .i64) (w0 := wr) (w.heap.size + 2) rfl _ _ 44 3 (.int .i64 0) 8 rfl Try.underlying44 where_info rfl (by decide) (by decide) v l (i : Int) [.int .i64 i] (fun _ => True) (fun _ => False) rfl rfl (where_tok _ _ _ _) (fun _ h_ => h_.elim) (fun _ _ => trivial) HO.out (Below.refl _ _) HH.out.2.2 ?hl ?hk)
             case hl => omega
             case hk =>
               intro v1 w3 ho hb hgr hat
               obtain ⟨Av, cv, rfl⟩ := Kd.R_slice ho
               generalize (l ++ [(i : Int)]).length = nv at *
               have h1 := (hb.block w.heap.size (by omega)).trans HH.out.1
               have h2 := (hb.block (w.heap.size + 1) (by omega)).trans HH.out.2.1
               have q3 : w3.cell? ⟨w.heap.size + 1, 0, none⟩ = some v := mb_cell1 h2
               have f3 := blk_frozen h2 0
               have hs3 : w.heap.size + 2 ≤ w3.heap.size := Nat.le_trans HH.out.2.2 hb.size
               have HH4 := Aside0.mk (show (w3.setCell ⟨w.heap.size + 1, 0, none⟩ (.slice Av nv cv)).heap[w.heap.size]? = some (.cells #[.int .i64 a0] 3 (0, 0)) ∧ (w3.setCell ⟨w.heap.size + 1, 0, none⟩ (.slice Av nv cv)).heap[w.heap.size + 1]? = some (.cells #[.slice Av nv cv] 44 (0, 0)) ∧ w.heap.size + 2 ≤ (w3.setCell ⟨w.heap.size + 1, 0, none⟩ (.slice Av nv cv)).heap.size from ⟨blk_far h1 (by show w.heap.size ≠ w.heap.size + 1; omega) _, blk_put h2 0 _ rfl, by simpa using hs3⟩)
               have HO4 := Aside0.mk (Kd.R_set ho h2 cls_E 0 (.slice Av nv cv))
               have HB4 := Aside0.mk (below_set (g := w.heap.size + 1) (j := 0) (v := .slice Av nv cv) (HB.out.trans (hb.mono (by omega))) (by omega))
               clear ho hb hgr hat h1 h2 hs3
               go_wp2
               go_roundg (m - (i + 1))
               case measure => omega
               case rel => exact ⟨i + 1, .slice Av nv cv, by go_num, by omega, Nat.le_refl _, HH4, ⟨by rw [HS.out]; exact HO4.out⟩, HB4⟩)
        · have hz0 : ¬ (i : Int) < 0 := by omega
          have hz1 : ¬ (i : Int) < a0 := by omega
          obtain rfl : i = m := by omega
          go_wp2
          clear hz0 hz1 hlt
          obtain ⟨A5, c5, rfl⟩ := Kd.R_slice HO.out
          rw [idL_len] at HO HH
          have HT0 := Lib.hid (show clsLoop a0 (idL i) (l1.drop 0) = clsLoop a0 (idL i) l1 from rfl)
          obtain ⟨TL, hTL⟩ : ∃ TL, clsLoop a0 (idL i) l1 = TL := ⟨_, rfl⟩
          rw [hTL] at HT0 HRES
          clear hTL
          generalize wr = W5 at *
          have HU0 := Lib.hid (show UF (idL i) ∧ (idL i).length = i from ⟨uf_id i, idL_len i⟩)
          go_loopg [10, 11, 12, 30] nL (fun gg _ _ _ v30 wr => ∃ (j : Nat) (T : List Int), v30 = .int .i64 j ∧ j ≤ nL ∧ nL - j ≤ gg ∧ Hid (UF T ∧ T.length = i) ∧ Hid (clsLoop a0 T (l1.drop j) = TL) ∧ Aside0 (Kd.R (Kd.int .i64) 3 wr (w.heap.size + 2) (fun _ => True) (.slice A5 i c5) T) ∧ Aside0 (Below (w.heap.size + 2) W5 wr))
          case atStart => exact ⟨0, _, rfl, by omega, by omega, HU0, HT0, HO, ⟨Below.refl _ _⟩⟩
          case round =>
            clear HU0 HT0 HO
            obtain ⟨j, T, rfl, hj, hgj, HU, HT, HO, HB5⟩ := hrel
            by_cases hlt : j < nL
            · have hltz : (j : Int) < (nL : Int) := by omega
              have hbw : Below w.heap.size w wr := HB.out.trans (HB5.out.mono (by omega))
              obtain ⟨ad1, ead1, hx0, hx1⟩ := at_T42 (Kd.C_below HC.out hbw) (j : Int) (by omega) (by rw [HNL.out]; omega)
              rw [Int.toNat_natCast] at hx0 hx1
              have hdr := drop_at l1 j (by rw [HNL.out]; exact hlt)
              have hq := HT.out
              rw [hdr, clsLoop] at hq
              have HQ := Lib.hid hq
              clear hq hdr HT hbw
              generalize rd_T42 l1 (j : Int) = x at hx0 hx1 HQ
              obtain ⟨a, b⟩ := x
              dsimp only at hx0 hx1
              cases ead1
              obtain ⟨W3, hW3⟩ : ∃ W3, wr.alloc (.cells #[.int .i64 a, .int .i64 b] 42) = W3 := ⟨_, rfl⟩
              have hszr : w.heap.size + 2 ≤ wr.heap.size := Nat.le_trans HH.out.2.2 HB5.out.size
              have hb3 : Below (w.heap.size + 2) W5 W3 := by rw [← hW3]; exact HB5.out.alloc hszr _
              have h1 := (hb3.block w.heap.size (by omega)).trans HH.out.1
              have h2 := (hb3.block (w.heap.size + 1) (by omega)).trans HH.out.2.1
              have q1 : W3.cell? ⟨w.heap.size, 0, none⟩ = some (.int .i64 a0) := mb_cell1 h1
              have q2 : W3.cell? ⟨w.heap.size + 1, 0, none⟩ = some (.slice A5 i c5) := mb_cell1 h2
              have Q1 := Lib.hid q1
              have Q2 := Lib.hid q2
              have hblk : W3.heap[wr.heap.size]? = some (.cells #[.int .i64 a, .int .i64 b] 42 (0, 0)) := by rw [← hW3]; exact blk_new wr _
              have y0 : W3.cell? ⟨wr.heap.size, 0, none⟩ = some (.int .i64 a) := by unfold World.cell?; rw [hblk]; rfl
              have y1 : W3.cell? ⟨wr.heap.size, 1, none⟩ = some (.int .i64 b) := by unfold World.cell?; rw [hblk]; rfl
              have HO3 := Aside0.mk (show Kd.R (Kd.int .i64) 3 W3 (w.heap.size + 2) (fun _ => True) (.slice A5 i c5) T by rw [← hW3]; exact Kd.R_alloc HO.out _)
              have HCT := Aside0.mk (show Kd.C (Kd.int .i64) W3 A5 T.length T from (Kd.R_reads' HO3.out).2.2)
              have HB3 := Aside0.mk hb3
              have HW3 := Lib.hid hW3
              clear hW3 h1 h2 hblk hb3 HO
              cases hi0 : inB a a0 with
              | false =>
                have HI := Lib.hid hi0
                have HX := Lib.hid (show clsLoop a0 T (l1.drop (j + 1)) = TL by have := HQ.out; rw [cls_stepF a0 T ⟨a, b⟩ (.inl HI.out)] at this; exact this)
                clear hi0 HQ
                go_wp2_with fail
                rw [HW3.out]
                refine (cls_plain w.heap.size a0 a false W3 (by exact Q1.out) HI.out).mono ?_
                rintro e w4 ⟨rfl, hd⟩
                obtain ⟨nd, rfl⟩ := hd.out
                clear hd
                go_wp2
                go_roundg (nL - (j + 1))
                case measure => omega
                case rel => exact ⟨j + 1, T, by go_num, by omega, Nat.le_refl _, HU, HX, ⟨Kd.R_drewN HO3.out _⟩, ⟨pw_below_drewN HB3.out _⟩⟩
              | true =>
                have HI := Lib.hid hi0
                obtain ⟨ha0, ha1⟩ := inB_true hi0
                clear hi0
                first
                | omega
                | (cases hi1 : inB b a0 with
                   | false =>
                     have HI1 := Lib.hid hi1
                     have HX := Lib.hid (show clsLoop a0 T (l1.drop (j + 1)) = TL by have := HQ.out; rw [cls_stepF a0 T ⟨a, b⟩ (.inr HI1.out)] at this; exact this)
                     clear hi1 HQ
                     go_wp2_with fail
                     rw [HW3.out]
                     refine (cls_plain w.heap.size a0 a true W3 (by exact Q1.out) HI.out).mono ?_
                     rintro e w4 ⟨rfl, hd⟩
                     obtain ⟨nd, rfl⟩ := hd.out
                     clear hd
                     go_wp2_with fail
                     refine (cls_plain w.heap.size a0 b false _ (by exact Q1.out) HI1.out).mono ?_
                     rintro e w4 ⟨rfl, hd⟩
                     obtain ⟨nd2, rfl⟩ := hd.out
                     clear hd
                     go_wp2
                     go_roundg (nL - (j + 1))
                     case measure => omega
                     case rel => exact ⟨j + 1, T, by go_num, by omega, Nat.le_refl _, HU, HX, ⟨Kd.R_drewN HO3.out _⟩, ⟨pw_below_drewN HB3.out _⟩⟩
                   | true =>
                     have HI1 := Lib.hid hi1
                     obtain ⟨hb0, hb1⟩ := inB_true hi1
                     clear hi1
                     have hai : a < (i : Int) := by omega
                     have hbi : b < (i : Int) := by omega
                     have hra := rootF_le T HU.out.1 a ha0 (by rw [HU.out.2]; exact hai)
                     have hrb := rootF_le T HU.out.1 b hb0 (by rw [HU.out.2]; exact hbi)
                     have hq := HQ.out
                     rw [cls_stepT a0 T ⟨a, b⟩ HI.out HI1.out] at hq
                     dsimp only at hq
                     have HQ2 := Lib.hid hq
                     clear hq HQ
                     obtain ⟨ra, hra'⟩ : ∃ ra, rootF T a = ra := ⟨_, rfl⟩
                     obtain ⟨rb, hrb'⟩ : ∃ rb, rootF T b = rb := ⟨_, rfl⟩
                     rw [hra'] at hra HQ2
                     rw [hrb'] at hrb HQ2
                     have HRA := Lib.hid hra'
                     have HRB := Lib.hid hrb'
                     clear hra' hrb'
                     go_wp2_with fail
                     rw [HW3.out]
                     refine (cls_plain w.heap.size a0 a true W3 (by exact Q1.out) HI.out).mono ?_
                     rintro e w4 ⟨rfl, hd⟩
                     obtain ⟨nd, rfl⟩ := hd.out
                     clear hd
                     go_wp2_with fail
                     refine (cls_plain w.heap.size a0 b true _ (by exact Q1.out) HI1.out).mono ?_
                     rintro e w4 ⟨rfl, hd⟩
                     obtain ⟨nd2, rfl⟩ := hd.out
                     clear hd
                     go_wp2_with fail
                     have Q24 := Lib.hid (show (W3.drewN (nd + nd2)).cell? ⟨w.heap.size + 1, 0, none⟩ = some (.slice A5 i c5) from Q2.out)
                     have HC4 := Aside0.mk (Kd.C_drewN HCT.out (nd + nd2))
                     have HO4 := Aside0.mk (Kd.R_drewN HO3.out (nd + nd2))
                     have HB4 := Aside0.mk (pw_below_drewN HB3.out (nd + nd2))
                     have z0 : (W3.drewN (nd + nd2)).cell? ⟨wr.heap.size, 0, none⟩ = some (.int .i64 a) := y0
                     have z1 : (W3.drewN (nd + nd2)).cell? ⟨wr.heap.size, 1, none⟩ = some (.int .i64 b) := y1
                     generalize W3.drewN (nd + nd2) = W4 at *
                     clear y0 y1 q1 q2 Q1 Q2 HCT HO3 HB3 HW3 W3
                     obtain ⟨g, cap, hv, hbg, -, -⟩ := Kd.R_form HO4.out (by rw [HU.out.2]; omega)
                     rw [HU.out.2] at hv
                     obtain ⟨rfl, rfl⟩ : A5 = some ⟨g, 0, none⟩ ∧ c5 = cap := by injection hv with h1 _ h3; exact ⟨h1, h3⟩
                     clear hv
                     have hq24 := Q24.out
                     rcases Int.lt_trichotomy ra rb with h1 | h1 | h1
                     · have h2 : ¬ rb < ra := by omega
                       obtain ⟨cc, hcl, -, hcc, -⟩ := Kd.R_elem HO4.out 0 rb (by omega) (by omega)
                       have HCL := Aside0.mk hcl
                       have HCC := Aside0.mk hcc
                       have HM : Aside0 (∀ W, (Kd.int .i64).M W (w.heap.size + 2) (fun _ => False) ra (cc.take 0 ++ [.int .i64 ra] ++ cc.drop (0 + [Value.int .i64 ra].length))) := ⟨fun W => by
                         have e1 : cc.take 0 ++ [Value.int .i64 ra] ++ cc.drop (0 + [Value.int .i64 ra].length) = [.int .i64 ra] := by
                           rw [List.drop_of_length_le (by rw [HCL.out]; exact Nat.le_refl _)]; rfl
                         rw [e1]
                         exact rfl⟩
                       have HX := Lib.hid (show clsLoop a0 (T.set rb.toNat ra) (l1.drop (j + 1)) = TL by
                         have := HQ2.out
                         rw [show max ra rb = rb by omega, show min ra rb = ra by omega] at this
                         exact this)
                       have HU2 := Lib.hid (show UF (T.set rb.toNat ra) ∧ (T.set rb.toNat ra).length = i from ⟨uf_set T HU.out.1 rb.toNat (by rw [HU.out.2]; omega) ra (by omega) (by omega), by rw [List.length_set]; exact HU.out.2⟩)
                       clear hcl hcc HQ2
                       go_quiet (first | (with_reducible exact root_quiet (w.heap.size + 1) (some ⟨g, 0, none⟩) c5 T i HU.out.2 a ra W4 _ Q24.out HC4.out HU.out.1 ha0 hai HRA.out) | exact root_quiet (w.heap.size + 1) (some ⟨g, 0, none⟩) c5 T i HU.out.2 b rb W4 _ Q24.out HC4.out HU.out.1 hb0 hbi HRB.out)
                       go_wp2_with (refine Kd.R_store (Kd.int .i64) (w0 := W4) (w.heap.size + 2) rfl rfl 3 (.tmp 59) (.tmp 58) rfl 3 rb 0 T ra (.int .i64 ra) [.int .i64 ra] cc (fun _ => True) (fun _ => False) rfl (by show _ = rb.toNat * 1 + 0; simp) rfl rfl cls_info (by simp [Value.oneCell']) (Kd.R_drewN HO4.out _) (by omega) (by omega) HCL.out HCC.out (Nat.le_refl _) (HM.out _) (fun _ h_ => h_.elim) (pw_below_drewN (Below.refl _ _) _) ?hk)
                       case hk =>
                         intro w7 hr7 hb7 hg7
                         have HO7 := Aside0.mk hr7
                         have HB7 := Aside0.mk (HB4.out.trans hb7)
                         clear hr7 hb7 hg7
                         go_wp2
                         go_roundg (nL - (j + 1))
                         case measure => omega
                         case rel => exact ⟨j + 1, T.set rb.toNat ra, by go_num, by omega, Nat.le_refl _, HU2, HX, HO7, HB7⟩
                     · subst h1
                       have h2 : ¬ ra < ra := by omega
                       obtain ⟨cc, hcl, -, hcc, -⟩ := Kd.R_elem HO4.out 0 ra (by omega) (by omega)
                       have HCL := Aside0.mk hcl
                       have HCC := Aside0.mk hcc
                       have HM : Aside0 (∀ W, (Kd.int .i64).M W (w.heap.size + 2) (fun _ => False) ra (cc.take 0 ++ [.int .i64 ra] ++ cc.drop (0 + [Value.int .i64 ra].length))) := ⟨fun W => by
                         have e1 : cc.take 0 ++ [Value.int .i64 ra] ++ cc.drop (0 + [Value.int .i64 ra].length) = [.int .i64 ra] := by
                           rw [List.drop_of_length_le (by rw [HCL.out]; exact Nat.le_refl _)]; rfl
                         rw [e1]
                         exact rfl⟩
                       have HX := Lib.hid (show clsLoop a0 (T.set ra.toNat ra) (l1.drop (j + 1)) = TL by
                         have := HQ2.out
                         rw [show max ra ra = ra by omega, show min ra ra = ra by omega] at this
                         exact this)
                       have HU2 := Lib.hid (show UF (T.set ra.toNat ra) ∧ (T.set ra.toNat ra).length = i from ⟨uf_set T HU.out.1 ra.toNat (by rw [HU.out.2]; omega) ra (by omega) (by omega), by rw [List.length_set]; exact HU.out.2⟩)
                       clear hcl hcc HQ2
                       go_quiet (first | (with_reducible exact root_quiet (w.heap.size + 1) (some ⟨g, 0, none⟩) c5 T i HU.out.2 a ra W4 _ Q24.out HC4.out HU.out.1 ha0 hai HRA.out) | exact root_quiet (w.heap.size + 1) (some ⟨g, 0, none⟩) c5 T i HU.out.2 b ra W4 _ Q24.out HC4.out HU.out.1 hb0 hbi HRB.out)
                       go_wp2_with (refine Kd.R_store (Kd.int .i64) (w0 := W4) (w.heap.size + 2) rfl rfl 3 (.tmp 59) (.tmp 58) rfl 3 ra 0 T ra (.int .i64 ra) [.int .i64 ra] cc (fun _ => True) (fun _ => False) rfl (by show _ = ra.toNat * 1 + 0; simp) rfl rfl cls_info (by simp [Value.oneCell']) (Kd.R_drewN HO4.out _) (by omega) (by omega) HCL.out HCC.out (Nat.le_refl _) (HM.out _) (fun _ h_ => h_.elim) (pw_below_drewN (Below.refl _ _) _) ?hk)
                       case hk =>
                         intro w7 hr7 hb7 hg7
                         have HO7 := Aside0.mk hr7
                         have HB7 := Aside0.mk (HB4.out.trans hb7)
                         clear hr7 hb7 hg7
                         go_wp2
                         go_roundg (nL - (j + 1))
                         case measure => omega
                         case rel => exact ⟨j + 1, T.set ra.toNat ra, by go_num, by omega, Nat.le_refl _, HU2, HX, HO7, HB7⟩
                     · have h2 : ¬ ra < rb := by omega
                       obtain ⟨cc, hcl, -, hcc, -⟩ := Kd.R_elem HO4.out 0 ra (by omega) (by omega)
                       have HCL := Aside0.mk hcl
                       have HCC := Aside0.mk hcc
                       have HM : Aside0 (∀ W, (Kd.int .i64).M W (w.heap.size + 2) (fun _ => False) rb (cc.take 0 ++ [.int .i64 rb] ++ cc.drop (0 + [Value.int .i64 rb].length))) := ⟨fun W => by
                         have e1 : cc.take 0 ++ [Value.int .i64 rb] ++ cc.drop (0 + [Value.int .i64 rb].length) = [.int .i64 rb] := by
                           rw [List.drop_of_length_le (by rw [HCL.out]; exact Nat.le_refl _)]; rfl
                         rw [e1]
                         exact rfl⟩
                       have HX := Lib.hid (show clsLoop a0 (T.set ra.toNat rb) (l1.drop (j + 1)) = TL by
                         have := HQ2.out
                         rw [show max ra rb = ra by omega, show min ra rb = rb by omega] at this
                         exact this)
                       have HU2 := Lib.hid (show UF (T.set ra.toNat rb) ∧ (T.set ra.toNat rb).length = i from ⟨uf_set T HU.out.1 ra.toNat (by rw [HU.out.2]; omega) rb (by omega) (by omega), by rw [List.length_set]; exact HU.out.2⟩)
                       clear hcl hcc HQ2
                       go_quiet (first | (with_reducible exact root_quiet (w.heap.size + 1) (some ⟨g, 0, none⟩) c5 T i HU.out.2 a ra W4 _ Q24.out HC4.out HU.out.1 ha0 hai HRA.out) | exact root_quiet (w.heap.size + 1) (some ⟨g, 0, none⟩) c5 T i HU.out.2 b rb W4 _ Q24.out HC4.out HU.out.1 hb0 hbi HRB.out)
                       go_wp2_with (refine Kd.R_store (Kd.int .i64) (w0 := W4) (w.heap.size + 2) rfl rfl 3 (.tmp 59) (.tmp 58) rfl 3 ra 0 T rb (.int .i64 rb) [.int .i64 rb] cc (fun _ => True) (fun _ => False) rfl (by show _ = ra.toNat * 1 + 0; simp) rfl rfl cls_info (by simp [Value.oneCell']) (Kd.R_drewN HO4.out _) (by omega) (by omega) HCL.out HCC.out (Nat.le_refl _) (HM.out _) (fun _ h_ => h_.elim) (pw_below_drewN (Below.refl _ _) _) ?hk)
                       case hk =>
                         intro w7 hr7 hb7 hg7
                         have HO7 := Aside0.mk hr7
                         have HB7 := Aside0.mk (HB4.out.trans hb7)
                         clear hr7 hb7 hg7
                         go_wp2
                         go_roundg (nL - (j + 1))
                         case measure => omega
                         case rel => exact ⟨j + 1, T.set ra.toNat rb, by go_num, by omega, Nat.le_refl _, HU2, HX, HO7, HB7⟩)
            · have hltz : ¬ (j : Int) < (nL : Int) := by omega
              obtain rfl : j = nL := by omega
              have hT := HT.out
              rw [List.drop_of_length_le (by rw [HNL.out]; exact Nat.le_refl _)] at hT
              replace hT : T = TL := hT
              subst hT
              have h2 := (HB5.out.block (w.heap.size + 1) (by omega)).trans HH.out.2.1
              have q2 : wr.cell? ⟨w.heap.size + 1, 0, none⟩ = some (.slice A5 i c5) := mb_cell1 h2
              clear HT h2 HC
              go_wp2
              clear q2
              generalize wr = W6 at *
              have HR0 := Lib.hid (show clsFin (i - 0) 0 T = RES from HRES.out)
              go_loopg [13, 63] i (fun gg _ v63 wr => ∃ (j : Nat) (T : List Int), v63 = .int .i64 j ∧ j ≤ i ∧ i - j ≤ gg ∧ Hid (UF T ∧ T.length = i) ∧ Hid (clsFin (i - j) j T = RES) ∧ Aside0 (Kd.R (Kd.int .i64) 3 wr (w.heap.size + 2) (fun _ => True) (.slice A5 i c5) T) ∧ Aside0 (Below (w.heap.size + 2) W5 wr))
              case atStart => exact ⟨0, T, rfl, by omega, by omega, HU, HR0, HO, HB5⟩
              case round =>
                clear HU HR0 HO HB5 HRES
                obtain ⟨k, T, rfl, hk, hgk, HU, HR, HO, HB5⟩ := hrel
                have h2 := (HB5.out.block (w.heap.size + 1) (by omega)).trans HH.out.2.1
                have q2 : wr.cell? ⟨w.heap.size + 1, 0, none⟩ = some (.slice A5 i c5) := mb_cell1 h2
                clear h2
                have Q2 := Lib.hid q2
                by_cases hlt : k < i
                · have hltz : (k : Int) < (i : Int) := by omega
                  have hr := HR.out
                  rw [show i - k = (i - (k + 1)) + 1 by omega, clsFin] at hr
                  have hle := rootF_le T HU.out.1 (k : Int) (by omega) (by rw [HU.out.2]; exact hltz)
                  obtain ⟨rk, hrk⟩ : ∃ rk, rootF T (k : Int) = rk := ⟨_, rfl⟩
                  rw [hrk] at hr hle
                  have HX := Lib.hid hr
                  have HRK := Lib.hid hrk
                  have HU2 := Lib.hid (show UF (T.set k rk) ∧ (T.set k rk).length = i from ⟨uf_set T HU.out.1 k (by rw [HU.out.2]; exact hlt) rk hle.1 hle.2, by rw [List.length_set]; exact HU.out.2⟩)
                  clear hr hrk HR
                  obtain ⟨g, cap, hv, hbg, -, -⟩ := Kd.R_form HO.out (by rw [HU.out.2]; omega)
                  rw [HU.out.2] at hv
                  obtain ⟨rfl, rfl⟩ : A5 = some ⟨g, 0, none⟩ ∧ c5 = cap := by injection hv with h1 _ h3; exact ⟨h1, h3⟩
                  clear hv
                  obtain ⟨hcg, hfg⟩ := Kd.R_celln (0 : Int) HO.out (k : Int) (by omega) hltz
                  rw [Int.toNat_natCast] at hcg hfg
                  obtain ⟨xk, hcx⟩ : ∃ x, wr.cell? ⟨g, k, none⟩ = some (.int .i64 x) := ⟨_, hcg⟩
                  clear hcg
                  have HC4 := Aside0.mk (Kd.R_reads' HO.out).2.2
                  have HROOT := Aside0.mk (fun W (hb : Below wr.heap.size wr W) => class_root (w.heap.size + 1) (some ⟨g, 0, none⟩) c5 T i HU.out.2 (k : Int) W (pw_cell_below hb Q2.out) (Kd.C_below HC4.out hb) HU.out.1 (by omega) hltz)
                  rw [HRK.out] at HROOT
                  go_wp2_with fail
                  go_region_held3 (fun w' => w'.cell? ⟨w.heap.size + 1, 0, none⟩ = some (.slice (some ⟨g, 0, none⟩) i c5))
                    (first | exact Q2.out | exact (cell_far (by show w.heap.size + 1 ≠ g; omega) _).trans Q2.out)
                    (first
                      | (go_at_call 26; refine (HROOT.out _ (below_drew (Below.refl _ _))).mono ?_; rintro e w4 ⟨rfl, hd⟩; obtain ⟨nd, rfl⟩ := hd.out; clear hd))
                  have hput := (Kd.R_putg (Kd.R_drewN HO.out (1 + nd)) (k : Int) rk).1
                  rw [Int.toNat_natCast] at hput
                  have HO7 := Aside0.mk hput
                  have HB7 := Aside0.mk ((pw_below_drewN HB5.out (1 + nd)).setCell (p := ⟨g, k, none⟩) hbg (.int .i64 rk))
                  clear hput
                  go_wp2
                  go_roundg (i - (k + 1))
                  case measure => omega
                  case rel => exact ⟨k + 1, T.set k rk, by go_num, by omega, Nat.le_refl _, HU2, HX, HO7, HB7⟩
                · have hltz : ¬ (k : Int) < (i : Int) := by omega
                  obtain rfl : k = i := by omega
                  have hr := HR.out
                  rw [Nat.sub_self] at hr
                  replace hr : T = RES := hr
                  subst hr
                  go_wp2
                  go_ret
                  exact ⟨_, rfl, Kd.R_lower HO.out (by omega), HB.out.trans (HB5.out.mono (by omega))⟩




end Go.Proofs.Ytfmbfnjlennfoaa.QN
