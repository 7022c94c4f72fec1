/- Fresh names: the program's and the document's stop at the same candidate. -/
import Derived.Test.YtcccambfcedakaaDoorFr
import Derived.Test.YtcccambfcedakaaDoorNmRef
namespace Oriel.Lx
def decD (n : Nat) : T := if n < 10 then [UInt8.ofNat (48 + n)] else [UInt8.ofNat (48 + n / 10), UInt8.ofNat (48 + n % 10)]
theorem dec_same (n : Nat) (h : n < 100) : Go.Lib.decDigits n = decD n := by
  unfold decD
  rw [Go.Lib.decDigits]
  by_cases h10 : n < 10
  · rw [dif_pos h10, if_pos h10]
  · rw [dif_neg h10, if_neg h10, Go.Lib.decDigits, dif_pos (by omega)]
    rfl
def letter (up : Bool) (j : Nat) : UInt8 := UInt8.ofNat ((if up then 88 else 120) + j)
def tail (i : Nat) : T := if i < 3 then [] else decD (i / 3)
def cand (up : Bool) (i : Nat) : T := letter up (i % 3) :: tail i
theorem cands_apart (up : Bool) : ((List.range 201).map (cand up)).Nodup := by
  cases up <;> decide +kernel
theorem nodup_le : ∀ (l1 l2 : List T), l1.Nodup → (∀ x ∈ l1, x ∈ l2) → l1.length ≤ l2.length := by
  intro l1
  induction l1 with
  | nil => intro l2 _ _; simp
  | cons a l ih =>
    intro l2 hn hs
    rw [List.nodup_cons] at hn
    have ha : a ∈ l2 := hs a (by simp)
    have := ih (l2.erase a) hn.2 (fun x hx => (List.mem_erase_of_ne (fun e => hn.1 (by rw [← e]; exact hx))).2 (hs x (by simp [hx])))
    rw [List.length_erase_of_mem ha] at this
    have hp := List.length_pos_of_mem ha
    simp
    omega
theorem least (p : Nat → Bool) : ∀ n, (∃ i, i ≤ n ∧ p i = false) → ∃ i, i ≤ n ∧ p i = false ∧ ∀ j, j < i → p j = true := by
  intro n
  induction n with
  | zero =>
    rintro ⟨i, hi, hp⟩
    exact ⟨i, hi, hp, fun j hj => by omega⟩
  | succ n ih =>
    rintro ⟨i, hi, hp⟩
    by_cases h : ∃ i, i ≤ n ∧ p i = false
    · obtain ⟨i, h1, h2, h3⟩ := ih h
      exact ⟨i, by omega, h2, h3⟩
    · refine ⟨i, hi, hp, fun j hj => ?_⟩
      cases hj' : p j with
      | true => rfl
      | false => exact absurd ⟨j, by omega, hj'⟩ h
theorem free_one (up : Bool) (taken : List T) (h : taken.length ≤ 200) : ∃ i, i ≤ taken.length ∧ taken.contains (cand up i) = false ∧ ∀ j, j < i → taken.contains (cand up j) = true := by
  refine least (fun i => taken.contains (cand up i)) taken.length ?_
  refine Classical.byContradiction fun hno => ?_
  have hall : ∀ i, i ≤ taken.length → taken.contains (cand up i) = true := by
    intro i hi
    cases hc : taken.contains (cand up i) with
    | true => rfl
    | false => exact absurd ⟨i, hi, hc⟩ hno
  have hnd : ((List.range (taken.length + 1)).map (cand up)).Nodup := by
    have e : List.range (taken.length + 1) = (List.range 201).take (taken.length + 1) := by
      rw [List.take_range, Nat.min_eq_left (by omega)]
    rw [e, List.map_take]
    exact (cands_apart up).sublist (List.take_sublist _ _)
  have := nodup_le _ taken hnd (by
    intro x hx
    obtain ⟨i, hi, rfl⟩ := List.mem_map.1 hx
    rw [List.mem_range] at hi
    have := hall i (by omega)
    simpa using this)
  simp at this
  omega
theorem cand_kind (up : Bool) (i : Nat) (h : i ≤ 200) : kindT (cand up i) = if up then 7 else 6 := by
  have hk : ∀ i : Fin 201, kindT (cand up i.val) = if up then 7 else 6 := by cases up <;> decide +kernel
  exact hk ⟨i, by omega⟩
end Oriel.Lx
namespace Go.Proofs.YtcccambfcedakaaDoor.Lx
open Go.RowKit Go.Proofs.YtcccambfcedakaaDoor.QD Go.Proofs.YtcccambfcedakaaDoorW.PrintWords Go.Proofs.YtcccambfcedakaaDoorW.PrintLast Oriel.Lx
def txt (l : T) : ByteArray := ⟨l.toArray⟩
theorem txt_list (l : T) : (txt l).data.toList = l := by simp [txt]
theorem txt_append (a b : T) : txt a ++ txt b = txt (a ++ b) := by
  apply ByteArray.ext
  simp [txt, ByteArray.data_append]
theorem txt_size (l : T) : (txt l).size = l.length := by rw [← len, txt_list]
theorem idx_loop (l : List ByteArray) (hl : l.length ≤ 1000000) (s : ByteArray) : ∀ d n : Nat, l.length - n = d → n ≤ l.length →
    ∃ r : Int, Ev (fun k => slices_Index_string_string.l0 k l s (l.length : Int) (n : Int)) r ∧ decide (r ≥ 0) = ((l.drop n).map (·.data.toList)).contains s.data.toList := by
  intro d
  induction d with
  | zero =>
    intro n hd hn
    have e : l.drop n = [] := List.drop_of_length_le (by omega)
    rw [e]
    exact ⟨-1, Ev.step (f := fun _ => some (-1)) (fun k => by rw [slices_Index_string_string.l0, if_neg (by omega)]) (Ev.now _), rfl⟩
  | succ d ih =>
    intro n hd hn
    have hlt : n < l.length := by omega
    have hrd : rdOf ByteArray.empty l (n : Int) = l[n] := by
      unfold rdOf
      rw [show ((n : Int)).toNat = n from rfl, List.getD_eq_getElem?_getD, List.getElem?_eq_getElem hlt]
      rfl
    rw [List.drop_eq_getElem_cons hlt, List.map_cons, List.contains_cons]
    by_cases he : s.data.toList = l[n].data.toList
    · have hb : (s.data.toList == l[n].data.toList) = true := by rw [beq_iff_eq]; exact he
      rw [hb, Bool.true_or]
      refine ⟨n, Ev.step (f := fun _ => some (n : Int)) (fun k => by rw [slices_Index_string_string.l0, if_pos (by omega), if_pos (by omega), if_pos (by omega), hrd, ByteArray.toList_eq, ByteArray.toList_eq, if_pos he]) (Ev.now _), decide_eq_true (by omega)⟩
    · have hb : (s.data.toList == l[n].data.toList) = false := by rw [beq_eq_false_iff_ne]; exact he
      rw [hb, Bool.false_or]
      obtain ⟨r, h1, h2⟩ := ih (n + 1) (by omega) (by omega)
      exact ⟨r, Ev.step (f := fun k => slices_Index_string_string.l0 k l s (l.length : Int) ((n + 1 : Nat) : Int)) (fun k => by rw [slices_Index_string_string.l0, if_pos (by omega), if_pos (by omega), if_pos (by omega), hrd, ByteArray.toList_eq, ByteArray.toList_eq, if_neg he, wrap_nat n (by omega)]) h1, h2⟩
theorem contains_ev (l : List ByteArray) (hl : l.length ≤ 1000000) (s : ByteArray) : Ev (fun k => slices_Contains_string_string.f k l s) ((l.map (·.data.toList)).contains s.data.toList) := by
  obtain ⟨r, h1, h2⟩ := idx_loop l hl s l.length 0 (by omega) (by omega)
  rw [List.drop_zero] at h2
  rw [← h2]
  exact Ev.bind (f := fun _ (t : Int) => some (decide (t ≥ 0))) h1 (Ev.now _)
theorem digits_ev (n : Nat) (h : n < 100) : Ev (fun k => orielref04_Digits.f k (n : Int)) (txt (decD n)) := by
  refine Ev.of (orielref04_Digits.mono _) (k := 6) ?_
  have hd : ∀ n : Fin 100, orielref04_Digits.f 6 (n.val : Int) = some (txt (decD n.val)) := by decide +kernel
  exact hd ⟨n, h⟩
def lettersB (up : Bool) : ByteArray := if up then ⟨#[88, 89, 90]⟩ else ⟨#[120, 121, 122]⟩
def lettersL (up : Bool) : List ByteArray := if up then [⟨#[88]⟩, ⟨#[89]⟩, ⟨#[90]⟩] else [⟨#[120]⟩, ⟨#[121]⟩, ⟨#[122]⟩]
theorem letter_cut (up : Bool) (j : Nat) (h : j < 3) : (lettersB up).extract j (j + 1) = txt [letter up j] := by
  have hd : ∀ j : Fin 3, (lettersB up).extract j.val (j.val + 1) = txt [letter up j.val] := by cases up <;> decide +kernel
  exact hd ⟨j, h⟩
theorem letter_at (up : Bool) (j : Nat) (h : j < 3) : rdOf ByteArray.empty (lettersL up) (j : Int) = txt [letter up j] := by
  have hd : ∀ j : Fin 3, rdOf ByteArray.empty (lettersL up) (j.val : Int) = txt [letter up j.val] := by cases up <;> decide +kernel
  exact hd ⟨j, h⟩
theorem letters_size (up : Bool) : (lettersB up).size = 3 := by cases up <;> rfl
theorem fresh_walk (up : Bool) (l : List ByteArray) (hl : l.length ≤ 1000000) (i0 : Nat) (hi : i0 ≤ 200) (h0 : (l.map (·.data.toList)).contains (cand up i0) = false) (hb : ∀ j, j < i0 → (l.map (·.data.toList)).contains (cand up j) = true) :
    ∀ d c : Nat, i0 - c = d → c ≤ i0 → Ev (fun k => name_Fresh.l1 k l (lettersB up) ((c / 3 : Nat) : Int) 3 ((c % 3 : Nat) : Int)) (txt (cand up i0), true) := by
  intro d
  induction d with
  | zero =>
    intro c hd hc
    obtain rfl : c = i0 := by omega
    obtain ⟨K, hk⟩ := contains_ev l hl (txt (cand up c))
    refine ⟨K + 1, fun k hk' => ?_⟩
    obtain ⟨k, rfl⟩ : ∃ m, k = m + 1 := ⟨k - 1, by omega⟩
    have e := hk k (by omega)
    dsimp only at e ⊢
    rw [txt_list, h0] at e
    have hm : c % 3 < 3 := by omega
    rw [name_Fresh.l1, if_pos (by omega), if_pos (by omega), wrap_nat (c % 3) (by omega), if_pos (by omega), letters_size, if_pos (by omega), show (((c % 3 : Nat) : Int)).toNat = c % 3 from rfl, show (((c % 3 + 1 : Nat) : Int)).toNat = c % 3 + 1 from rfl, letter_cut up _ hm]
    by_cases h3 : c < 3
    · have ht : cand up c = [letter up (c % 3)] := by unfold cand tail; rw [if_pos h3]
      rw [ht] at e ⊢
      rw [if_neg (by omega), e]
      rfl
    · have ht : cand up c = [letter up (c % 3)] ++ decD (c / 3) := by unfold cand tail; rw [if_neg h3]; rfl
      have hit : strconv_Itoa_29.f ((c / 3 : Nat) : Int) = some (txt (decD (c / 3))) := by
        unfold strconv_Itoa_29.f
        rw [if_pos (by omega), show (((c / 3 : Nat) : Int)).toNat = c / 3 from rfl, dec_same _ (by omega)]
        rfl
      have hsz : (txt [letter up (c % 3)]).size + (txt (decD (c / 3))).size ≤ 9223372036854775807 := by
        rw [txt_size, txt_size]
        unfold decD
        split <;> simp
      rw [ht] at e ⊢
      rw [if_pos (by omega), hit]
      simp only [Option.bind_some]
      rw [if_pos hsz, txt_append, e]
      rfl
  | succ d ih =>
    intro c hd hc
    have hnext : Ev (fun k => name_Fresh.l1 k l (lettersB up) ((c / 3 : Nat) : Int) 3 ((c % 3 + 1 : Nat) : Int)) (txt (cand up i0), true) := by
      have step := ih (c + 1) (by omega) (by omega)
      by_cases h2 : c % 3 = 2
      · have e1 : (c + 1) / 3 = c / 3 + 1 := by omega
        have e2 : (c + 1) % 3 = 0 := by omega
        rw [e1, e2] at step
        refine Ev.step (f := fun k => name_Fresh.l0 k l (lettersB up) ((c / 3 + 1 : Nat) : Int)) (fun k => by rw [name_Fresh.l1, if_neg (by omega), wrap_nat (c / 3) (by omega)]) ?_
        refine Ev.step (f := fun k => name_Fresh.l1 k l (lettersB up) ((c / 3 + 1 : Nat) : Int) 3 ((0 : Nat) : Int)) (fun k => by rw [name_Fresh.l0, letters_size]; rfl) step
      · have e1 : (c + 1) / 3 = c / 3 := by omega
        have e2 : (c + 1) % 3 = c % 3 + 1 := by omega
        rw [e1, e2] at step
        exact step
    obtain ⟨K, hk⟩ := contains_ev l hl (txt (cand up c))
    obtain ⟨K2, hk2⟩ := hnext
    refine ⟨K + K2 + 1, fun k hk' => ?_⟩
    obtain ⟨k, rfl⟩ : ∃ m, k = m + 1 := ⟨k - 1, by omega⟩
    have e := hk k (by omega)
    have en := hk2 k (by omega)
    dsimp only at e en ⊢
    rw [txt_list, hb c (by omega)] at e
    have hm : c % 3 < 3 := by omega
    rw [name_Fresh.l1, if_pos (by omega), if_pos (by omega), wrap_nat (c % 3) (by omega), if_pos (by omega), letters_size, if_pos (by omega), show (((c % 3 : Nat) : Int)).toNat = c % 3 from rfl, show (((c % 3 + 1 : Nat) : Int)).toNat = c % 3 + 1 from rfl, letter_cut up _ hm]
    by_cases h3 : c < 3
    · have ht : cand up c = [letter up (c % 3)] := by unfold cand tail; rw [if_pos h3]
      rw [ht] at e
      rw [if_neg (by omega), e]
      simp only [Option.bind_some, if_true]
      exact en
    · have ht : cand up c = [letter up (c % 3)] ++ decD (c / 3) := by unfold cand tail; rw [if_neg h3]; rfl
      have hit : strconv_Itoa_29.f ((c / 3 : Nat) : Int) = some (txt (decD (c / 3))) := by
        unfold strconv_Itoa_29.f
        rw [if_pos (by omega), show (((c / 3 : Nat) : Int)).toNat = c / 3 from rfl, dec_same _ (by omega)]
        rfl
      have hsz : (txt [letter up (c % 3)]).size + (txt (decD (c / 3))).size ≤ 9223372036854775807 := by
        rw [txt_size, txt_size]
        unfold decD
        split <;> simp
      rw [ht] at e
      rw [if_pos (by omega), hit]
      simp only [Option.bind_some]
      rw [if_pos hsz, txt_append, e]
      simp only [Option.bind_some, if_true]
      exact en
theorem rfresh_walk (up : Bool) (l : List ByteArray) (hl : l.length ≤ 1000000) (i0 : Nat) (hi : i0 ≤ 200) (hil : i0 ≤ l.length) (h0 : (l.map (·.data.toList)).contains (cand up i0) = false) (hb : ∀ j, j < i0 → (l.map (·.data.toList)).contains (cand up j) = true) :
    ∀ d c : Nat, i0 - c = d → c ≤ i0 → Ev (fun k => orielref04_Fresh.l0 k l (lettersL up) (c : Int)) (txt (cand up i0), true) := by
  have hll : (lettersL up).length = 3 := by cases up <;> rfl
  have one : ∀ c : Nat, c ≤ i0 → ∃ K, ∀ k, K ≤ k → orielref04_Fresh.l0 (k + 1) l (lettersL up) (c : Int) = if (l.map (·.data.toList)).contains (cand up c) = true then orielref04_Fresh.l0 k l (lettersL up) ((c + 1 : Nat) : Int) else some (txt (cand up c), true) := by
    intro c hc
    obtain ⟨K, hk⟩ := in_ev l hl (txt (cand up c))
    obtain ⟨K2, hk2⟩ := digits_ev (c / 3) (by omega)
    refine ⟨K + K2, fun k hk' => ?_⟩
    have e := hk k (by omega)
    have e2 := hk2 k (by omega)
    dsimp only at e e2
    rw [txt_list] at e
    have hm : c % 3 < 3 := by omega
    have p1 : (c : Int) ≤ (l.length : Int) := by omega
    have p2 : (0 : Int) ≤ ((c % 3 : Nat) : Int) := by omega
    have p3 : ((c % 3 : Nat) : Int) < ((3 : Nat) : Int) := by omega
    have p5 : wrap64 ((c : Int) + 1) = ((c + 1 : Nat) : Int) := wrap_nat c (by omega)
    have p6 : c < 3 → ¬ (c : Int) ≥ 3 := by omega
    have p7 : ¬ c < 3 → (c : Int) ≥ 3 := by omega
    have t3 : wrap64 ((c / 3 : Nat) : Int) = ((c / 3 : Nat) : Int) := by unfold wrap64; omega
    have t1 : Int.tmod (c : Int) 3 = ((c % 3 : Nat) : Int) := (Int.ofNat_tmod c 3).symm
    have t2 : Int.tdiv (c : Int) 3 = ((c / 3 : Nat) : Int) := (Int.ofNat_tdiv c 3).symm
    rw [orielref04_Fresh.l0, if_pos p1, t1, t2, t3, if_pos p2, hll, if_pos p3, letter_at up _ hm, p5]
    by_cases h3 : c < 3
    · have ht : cand up c = [letter up (c % 3)] := by unfold cand tail; rw [if_pos h3]
      rw [ht] at e ⊢
      rw [if_neg (p6 h3), e]
      rfl
    · have ht : cand up c = [letter up (c % 3)] ++ decD (c / 3) := by unfold cand tail; rw [if_neg h3]; rfl
      have hsz : (txt [letter up (c % 3)]).size + (txt (decD (c / 3))).size ≤ 9223372036854775807 := by
        rw [txt_size, txt_size]
        unfold decD
        split <;> simp
      rw [ht] at e ⊢
      rw [if_pos (p7 h3), e2]
      simp only [Option.bind_some]
      rw [if_pos hsz, txt_append, e]
      rfl
  intro d
  induction d with
  | zero =>
    intro c hd hc
    obtain rfl : c = i0 := by omega
    obtain ⟨K, hk⟩ := one c hc
    refine ⟨K + 1, fun k hk' => ?_⟩
    obtain ⟨k, rfl⟩ : ∃ m, k = m + 1 := ⟨k - 1, by omega⟩
    dsimp only
    rw [hk k (by omega), h0]
    rfl
  | succ d ih =>
    intro c hd hc
    obtain ⟨K, hk⟩ := one c hc
    obtain ⟨K2, hk2⟩ := ih (c + 1) (by omega) (by omega)
    refine ⟨K + K2 + 1, fun k hk' => ?_⟩
    obtain ⟨k, rfl⟩ : ∃ m, k = m + 1 := ⟨k - 1, by omega⟩
    dsimp only
    rw [hk k (by omega), hb c (by omega), if_pos rfl]
    exact hk2 k (by omega)
end Go.Proofs.YtcccambfcedakaaDoor.Lx
