/- Fresh names, however many are taken. -/
import Derived.Test.YtfccifekaokibaaGreatDoorQTx10
import Derived.Test.YtfccifekaokibaaGreatDoorSpEv
namespace Oriel.Lx
def valD (l : T) : Nat := l.foldl (fun v b => v * 10 + (b.toNat - 48)) 0
theorem dig_nat (d : Nat) (h : d < 10) : (UInt8.ofNat (48 + d)).toNat = 48 + d := by
  rw [UInt8.toNat_ofNat']
  exact Nat.mod_eq_of_lt (by omega)
theorem dec_val : ∀ (m u : Nat), u ≤ m → valD (Go.Lib.decDigits u) = u
  | m, u, hm => by
    rw [Go.Lib.decDigits]
    by_cases h : u < 10
    · rw [dif_pos h]
      unfold valD
      simp
      omega
    · rw [dif_neg h]
      cases m with
      | zero => omega
      | succ m =>
        have ih := dec_val m (u / 10) (by omega)
        unfold valD at ih ⊢
        rw [List.foldl_append, ih, List.foldl_cons, List.foldl_nil, dig_nat _ (by omega)]
        omega
theorem dec_inj {u v : Nat} (h : Go.Lib.decDigits u = Go.Lib.decDigits v) : u = v := by
  rw [← dec_val u u (Nat.le_refl _), ← dec_val v v (Nat.le_refl _), h]
theorem dec_some (u : Nat) : Go.Lib.decDigits u ≠ [] := by
  rw [Go.Lib.decDigits]
  split <;> simp
def letter (up : Bool) (j : Nat) : UInt8 := UInt8.ofNat ((if up then 88 else 120) + j)
def tail (i : Nat) : T := if i < 3 then [] else Go.Lib.decDigits (i / 3)
def cand (up : Bool) (i : Nat) : T := letter up (i % 3) :: tail i
theorem letter_inj (up : Bool) (i j : Nat) (hi : i < 3) (hj : j < 3) (h : letter up i = letter up j) : i = j := by
  have hd : ∀ i j : Fin 3, letter up i.val = letter up j.val → i.val = j.val := by cases up <;> decide
  exact hd ⟨i, hi⟩ ⟨j, hj⟩ h
theorem cand_inj (up : Bool) (i j : Nat) (h : cand up i = cand up j) : i = j := by
  unfold cand at h
  injection h with h1 h2
  have e1 := letter_inj up _ _ (by omega) (by omega) h1
  unfold tail at h2
  by_cases hi : i < 3
  · by_cases hj : j < 3
    · omega
    · rw [if_pos hi, if_neg hj] at h2
      exact absurd h2.symm (dec_some _)
  · by_cases hj : j < 3
    · rw [if_neg hi, if_pos hj] at h2
      exact absurd h2 (dec_some _)
    · rw [if_neg hi, if_neg hj] at h2
      have e2 := dec_inj h2
      omega
theorem nodup_le : ∀ (l1 l2 : List T), l1.Nodup → (∀ x ∈ l1, x ∈ l2) → l1.length ≤ l2.length := by
  intro l1
  induction l1 with
  | nil => intro l2 _ _; simp
  | cons a l ih =>
    intro l2 hn hs
    rw [List.nodup_cons] at hn
    have ha : a ∈ l2 := hs a (by simp)
    have := ih (l2.erase a) hn.2 (fun x hx => (List.mem_erase_of_ne (fun e => hn.1 (by rw [← e]; exact hx))).2 (hs x (by simp [hx])))
    rw [List.length_erase_of_mem ha] at this
    have hp := List.length_pos_of_mem ha
    simp
    omega
theorem least (p : Nat → Bool) : ∀ n, (∃ i, i ≤ n ∧ p i = false) → ∃ i, i ≤ n ∧ p i = false ∧ ∀ j, j < i → p j = true := by
  intro n
  induction n with
  | zero =>
    rintro ⟨i, hi, hp⟩
    exact ⟨i, hi, hp, fun j hj => by omega⟩
  | succ n ih =>
    rintro ⟨i, hi, hp⟩
    by_cases h : ∃ i, i ≤ n ∧ p i = false
    · obtain ⟨i, h1, h2, h3⟩ := ih h
      exact ⟨i, by omega, h2, h3⟩
    · refine ⟨i, hi, hp, fun j hj => ?_⟩
      cases hj' : p j with
      | true => rfl
      | false => exact absurd ⟨j, by omega, hj'⟩ h
theorem free_one (up : Bool) (taken : List T) : ∃ i, i ≤ taken.length ∧ taken.contains (cand up i) = false ∧ ∀ j, j < i → taken.contains (cand up j) = true := by
  refine least (fun i => taken.contains (cand up i)) taken.length ?_
  refine Classical.byContradiction fun hno => ?_
  have hall : ∀ i, i ≤ taken.length → taken.contains (cand up i) = true := by
    intro i hi
    cases hc : taken.contains (cand up i) with
    | true => rfl
    | false => exact absurd ⟨i, hi, hc⟩ hno
  have hnd : ((List.range (taken.length + 1)).map (cand up)).Nodup := by
    refine List.pairwise_map.2 ((List.nodup_range).imp ?_)
    intro a b hab e
    exact hab (cand_inj up a b e)
  have := nodup_le _ taken hnd (by
    intro x hx
    obtain ⟨i, hi, rfl⟩ := List.mem_map.1 hx
    rw [List.mem_range] at hi
    have := hall i (by omega)
    simpa using this)
  simp at this
  omega
end Oriel.Lx
namespace Go.Proofs.YtfccifekaokibaaGreatDoor.Lx
open Go.RowKit Go.Proofs.YtfccifekaokibaaGreatDoor.QT Go.Proofs.YtfccifekaokibaaGreatDoorW.PrintWords Go.Proofs.YtfccifekaokibaaGreatDoorW.PrintLast Oriel.Lx
def txt (l : T) : ByteArray := ⟨l.toArray⟩
theorem txt_list (l : T) : (txt l).data.toList = l := by simp [txt]
theorem txt_append (a b : T) : txt a ++ txt b = txt (a ++ b) := by
  apply ByteArray.ext
  simp [txt, ByteArray.data_append]
theorem txt_size (l : T) : (txt l).size = l.length := by rw [← len, txt_list]
theorem dec_short (n : Nat) (h : n ≤ 100000) (x : UInt8) : ([x] : T).length + (Go.Lib.decDigits n).length ≤ 9223372036854775807 := by
  have key : ∀ (m u : Nat), u ≤ m → (Go.Lib.decDigits u).length ≤ u + 1 := by
    intro m
    induction m with
    | zero =>
      intro u hu
      rw [Go.Lib.decDigits, dif_pos (by omega)]
      simp
    | succ m ih =>
      intro u hu
      rw [Go.Lib.decDigits]
      by_cases h : u < 10
      · rw [dif_pos h]; simp
      · rw [dif_neg h, List.length_append, List.length_singleton]
        have := ih (u / 10) (by omega)
        omega
  have := key n n (Nat.le_refl _)
  simp only [List.length_singleton]
  omega
theorem idx_loop (l : List ByteArray) (hl : l.length ≤ 1000000) (s : ByteArray) : ∀ d n : Nat, l.length - n = d → n ≤ l.length →
    ∃ r : Int, Ev (fun k => slices_Index_string_string.l0 k l s (l.length : Int) (n : Int)) r ∧ decide (r ≥ 0) = ((l.drop n).map (·.data.toList)).contains s.data.toList := by
  intro d
  induction d with
  | zero =>
    intro n hd hn
    have e : l.drop n = [] := List.drop_of_length_le (by omega)
    rw [e]
    exact ⟨-1, Ev.step (f := fun _ => some (-1)) (fun k => by rw [slices_Index_string_string.l0, if_neg (by omega)]) (Ev.now _), rfl⟩
  | succ d ih =>
    intro n hd hn
    have hlt : n < l.length := by omega
    have hrd : rdOf ByteArray.empty l (n : Int) = l[n] := by
      unfold rdOf
      rw [show ((n : Int)).toNat = n from rfl, List.getD_eq_getElem?_getD, List.getElem?_eq_getElem hlt]
      rfl
    rw [List.drop_eq_getElem_cons hlt, List.map_cons, List.contains_cons]
    by_cases he : s.data.toList = l[n].data.toList
    · have hb : (s.data.toList == l[n].data.toList) = true := by rw [beq_iff_eq]; exact he
      rw [hb, Bool.true_or]
      refine ⟨n, Ev.step (f := fun _ => some (n : Int)) (fun k => by rw [slices_Index_string_string.l0, if_pos (by omega), if_pos (by omega), if_pos (by omega), hrd, ByteArray.toList_eq, ByteArray.toList_eq, if_pos he]) (Ev.now _), decide_eq_true (by omega)⟩
    · have hb : (s.data.toList == l[n].data.toList) = false := by rw [beq_eq_false_iff_ne]; exact he
      rw [hb, Bool.false_or]
      obtain ⟨r, h1, h2⟩ := ih (n + 1) (by omega) (by omega)
      exact ⟨r, Ev.step (f := fun k => slices_Index_string_string.l0 k l s (l.length : Int) ((n + 1 : Nat) : Int)) (fun k => by rw [slices_Index_string_string.l0, if_pos (by omega), if_pos (by omega), if_pos (by omega), hrd, ByteArray.toList_eq, ByteArray.toList_eq, if_neg he, wrap_nat n (by omega)]) h1, h2⟩
theorem contains_ev (l : List ByteArray) (hl : l.length ≤ 1000000) (s : ByteArray) : Ev (fun k => slices_Contains_string_string.f k l s) ((l.map (·.data.toList)).contains s.data.toList) := by
  obtain ⟨r, h1, h2⟩ := idx_loop l hl s l.length 0 (by omega) (by omega)
  rw [List.drop_zero] at h2
  rw [← h2]
  exact Ev.bind (f := fun _ (t : Int) => some (decide (t ≥ 0))) h1 (Ev.now _)
def lettersB (up : Bool) : ByteArray := if up then ⟨#[88, 89, 90]⟩ else ⟨#[120, 121, 122]⟩
theorem letter_cut (up : Bool) (j : Nat) (h : j < 3) : (lettersB up).extract j (j + 1) = txt [letter up j] := by
  have hd : ∀ j : Fin 3, (lettersB up).extract j.val (j.val + 1) = txt [letter up j.val] := by cases up <;> decide +kernel
  exact hd ⟨j, h⟩
theorem letters_size (up : Bool) : (lettersB up).size = 3 := by cases up <;> rfl
theorem fresh_walk (up : Bool) (l : List ByteArray) (hl : l.length ≤ 1000000) (i0 : Nat) (hi : i0 ≤ 200000) (h0 : (l.map (·.data.toList)).contains (cand up i0) = false) (hb : ∀ j, j < i0 → (l.map (·.data.toList)).contains (cand up j) = true) :
    ∀ d c : Nat, i0 - c = d → c ≤ i0 → Ev (fun k => name_Fresh.l1 k l (lettersB up) ((c / 3 : Nat) : Int) 3 ((c % 3 : Nat) : Int)) (txt (cand up i0), true) := by
  intro d
  induction d with
  | zero =>
    intro c hd hc
    obtain rfl : c = i0 := by omega
    obtain ⟨K, hk⟩ := contains_ev l hl (txt (cand up c))
    refine ⟨K + 1, fun k hk' => ?_⟩
    obtain ⟨k, rfl⟩ : ∃ m, k = m + 1 := ⟨k - 1, by omega⟩
    have e := hk k (by omega)
    dsimp only at e ⊢
    rw [txt_list, h0] at e
    have hm : c % 3 < 3 := by omega
    rw [name_Fresh.l1, if_pos (by omega), if_pos (by omega), wrap_nat (c % 3) (by omega), if_pos (by omega), letters_size, if_pos (by omega), show (((c % 3 : Nat) : Int)).toNat = c % 3 from rfl, show (((c % 3 + 1 : Nat) : Int)).toNat = c % 3 + 1 from rfl, letter_cut up _ hm]
    by_cases h3 : c < 3
    · have ht : cand up c = [letter up (c % 3)] := by unfold cand tail; rw [if_pos h3]
      rw [ht] at e ⊢
      rw [if_neg (by omega), e]
      rfl
    · have ht : cand up c = [letter up (c % 3)] ++ Go.Lib.decDigits (c / 3) := by unfold cand tail; rw [if_neg h3]; rfl
      have hit : strconv_Itoa_40.f ((c / 3 : Nat) : Int) = some (txt (Go.Lib.decDigits (c / 3))) := by
        unfold strconv_Itoa_40.f
        rw [if_pos (by omega), if_pos (by omega), Go.Lib.itoa_nonneg]
        rfl
      have hsz : (txt [letter up (c % 3)]).size + (txt (Go.Lib.decDigits (c / 3))).size ≤ 9223372036854775807 := by
        rw [txt_size, txt_size]
        exact dec_short _ (by omega) _
      rw [ht] at e ⊢
      rw [if_pos (by omega), hit]
      simp only [Option.bind_some]
      rw [if_pos hsz, txt_append, e]
      rfl
  | succ d ih =>
    intro c hd hc
    have hnext : Ev (fun k => name_Fresh.l1 k l (lettersB up) ((c / 3 : Nat) : Int) 3 ((c % 3 + 1 : Nat) : Int)) (txt (cand up i0), true) := by
      have step := ih (c + 1) (by omega) (by omega)
      by_cases h2 : c % 3 = 2
      · have e1 : (c + 1) / 3 = c / 3 + 1 := by omega
        have e2 : (c + 1) % 3 = 0 := by omega
        rw [e1, e2] at step
        refine Ev.step (f := fun k => name_Fresh.l0 k l (lettersB up) ((c / 3 + 1 : Nat) : Int)) (fun k => by rw [name_Fresh.l1, if_neg (by omega), wrap_nat (c / 3) (by omega)]) ?_
        refine Ev.step (f := fun k => name_Fresh.l1 k l (lettersB up) ((c / 3 + 1 : Nat) : Int) 3 ((0 : Nat) : Int)) (fun k => by rw [name_Fresh.l0, letters_size]; rfl) step
      · have e1 : (c + 1) / 3 = c / 3 := by omega
        have e2 : (c + 1) % 3 = c % 3 + 1 := by omega
        rw [e1, e2] at step
        exact step
    obtain ⟨K, hk⟩ := contains_ev l hl (txt (cand up c))
    obtain ⟨K2, hk2⟩ := hnext
    refine ⟨K + K2 + 1, fun k hk' => ?_⟩
    obtain ⟨k, rfl⟩ : ∃ m, k = m + 1 := ⟨k - 1, by omega⟩
    have e := hk k (by omega)
    have en := hk2 k (by omega)
    dsimp only at e en ⊢
    rw [txt_list, hb c (by omega)] at e
    have hm : c % 3 < 3 := by omega
    rw [name_Fresh.l1, if_pos (by omega), if_pos (by omega), wrap_nat (c % 3) (by omega), if_pos (by omega), letters_size, if_pos (by omega), show (((c % 3 : Nat) : Int)).toNat = c % 3 from rfl, show (((c % 3 + 1 : Nat) : Int)).toNat = c % 3 + 1 from rfl, letter_cut up _ hm]
    by_cases h3 : c < 3
    · have ht : cand up c = [letter up (c % 3)] := by unfold cand tail; rw [if_pos h3]
      rw [ht] at e
      rw [if_neg (by omega), e]
      simp only [Option.bind_some, if_true]
      exact en
    · have ht : cand up c = [letter up (c % 3)] ++ Go.Lib.decDigits (c / 3) := by unfold cand tail; rw [if_neg h3]; rfl
      have hit : strconv_Itoa_40.f ((c / 3 : Nat) : Int) = some (txt (Go.Lib.decDigits (c / 3))) := by
        unfold strconv_Itoa_40.f
        rw [if_pos (by omega), if_pos (by omega), Go.Lib.itoa_nonneg]
        rfl
      have hsz : (txt [letter up (c % 3)]).size + (txt (Go.Lib.decDigits (c / 3))).size ≤ 9223372036854775807 := by
        rw [txt_size, txt_size]
        exact dec_short _ (by omega) _
      rw [ht] at e
      rw [if_pos (by omega), hit]
      simp only [Option.bind_some]
      rw [if_pos hsz, txt_append, e]
      simp only [Option.bind_some, if_true]
      exact en
set_option maxRecDepth 100000 in
theorem may1 : name_May.f 60 1 ⟨#[88]⟩ = some false := by decide +kernel
set_option maxRecDepth 100000 in
theorem may4 : name_May.f 60 4 ⟨#[88]⟩ = some true := by decide +kernel
theorem fresh_of (sp : Int) (up : Bool) (hsp : (sp = 1 ∧ up = false) ∨ (sp = 4 ∧ up = true)) (l : List ByteArray) (hl : l.length ≤ 200000) : ∃ i0, i0 ≤ l.length ∧ (l.map (·.data.toList)).contains (cand up i0) = false ∧ (∀ j, j < i0 → (l.map (·.data.toList)).contains (cand up j) = true) ∧ Ev (fun k => name_Fresh.f k sp l) (txt (cand up i0), true) := by
  obtain ⟨i0, h1, h2, h3⟩ := free_one up (l.map (·.data.toList))
  rw [List.length_map] at h1
  refine ⟨i0, h1, h2, h3, ?_⟩
  have w := fresh_walk up l (by omega) i0 (by omega) h2 h3 i0 0 (by omega) (by omega)
  have j : Ev (fun k => name_Fresh.j0 k l (lettersB up)) (txt (cand up i0), true) := by
    refine Ev.step (f := fun k => name_Fresh.l0 k l (lettersB up) 0) (fun k => by rw [name_Fresh.j0]) ?_
    exact Ev.step (f := fun k => name_Fresh.l1 k l (lettersB up) ((0 / 3 : Nat) : Int) 3 ((0 % 3 : Nat) : Int)) (fun k => by rw [name_Fresh.l0, letters_size]; rfl) w
  obtain ⟨K2, e2⟩ := j
  rcases hsp with ⟨rfl, rfl⟩ | ⟨rfl, rfl⟩
  · obtain ⟨K1, e1⟩ := Ev.of (fun k => name_May.mono 1 ⟨#[88]⟩ k) may1
    refine ⟨K1 + K2, fun k hk => ?_⟩
    have f1 := e1 k (by omega)
    have f2 := e2 k (by omega)
    dsimp only at f1 f2 ⊢
    unfold lettersB at f2
    rw [if_neg Bool.false_ne_true] at f2
    unfold name_Fresh.f
    rw [show name_Space.f 1 = some ⟨#[118, 97, 108, 117, 101]⟩ from rfl, Option.bind_some, if_neg (by rw [ByteArray.toList_eq]; decide), f1, Option.bind_some, if_neg Bool.false_ne_true]
    exact f2
  · obtain ⟨K1, e1⟩ := Ev.of (fun k => name_May.mono 4 ⟨#[88]⟩ k) may4
    refine ⟨K1 + K2, fun k hk => ?_⟩
    have f1 := e1 k (by omega)
    have f2 := e2 k (by omega)
    dsimp only at f1 f2 ⊢
    unfold lettersB at f2
    rw [if_pos rfl] at f2
    unfold name_Fresh.f
    rw [show name_Space.f 4 = some ⟨#[115, 116, 114, 117, 99, 116, 117, 114, 101]⟩ from rfl, Option.bind_some, if_neg (by rw [ByteArray.toList_eq]; decide), f1, Option.bind_some, if_pos rfl]
    exact f2
end Go.Proofs.YtfccifekaokibaaGreatDoor.Lx

