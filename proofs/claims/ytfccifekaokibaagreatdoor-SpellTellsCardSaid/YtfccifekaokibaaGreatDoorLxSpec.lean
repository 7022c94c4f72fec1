/- Plain wordsT for the lexer: what the printed functions come to, on lists of bytes. -/
import Derived.RowKit
namespace Oriel.Lx
abbrev T := List UInt8
def isSmall (c : UInt8) : Bool := decide (97 ≤ c.toNat) && decide (c.toNat ≤ 122)
def isGreat (c : UInt8) : Bool := decide (65 ≤ c.toNat) && decide (c.toNat ≤ 90)
def isDigit (c : UInt8) : Bool := decide (48 ≤ c.toNat) && decide (c.toNat ≤ 57)
def isRest (c : UInt8) : Bool := isSmall c || isGreat c || isDigit c || c == 95 || c == 39
def signBytes : T := [33, 37, 38, 36, 35, 43, 45, 47, 58, 60, 61, 62, 63, 64, 92, 126, 96, 94, 124, 42]
def isSign (c : UInt8) : Bool := signBytes.contains c
def isBlank (c : UInt8) : Bool := c == 32 || c == 9 || c == 10 || c == 13
def marks1 : T := [40, 41, 44, 46, 59, 95]
def reserved (l : T) : Bool := l == [61] || l == [61, 62] || l == [124] || l == [58] || l == [58, 62] || l == [45, 62]
def markT (l : T) : Bool := reserved l || (match l with | [c] => marks1.contains c | _ => false)
def keywords : List T := [[97, 110, 100], [97, 115], [99, 97, 115, 101], [100, 97, 116, 97, 116, 121, 112, 101], [101, 108, 115, 101], [101, 110, 100], [102, 110], [102, 117, 110], [102, 117, 110, 99, 116, 111, 114], [105, 102], [105, 110], [105, 110, 99, 108, 117, 100, 101], [108, 101, 116], [108, 111, 99, 97, 108], [111, 102], [111, 112], [111, 112, 101, 110], [115, 105, 103], [115, 105, 103, 110, 97, 116, 117, 114, 101], [115, 116, 114, 117, 99, 116], [115, 116, 114, 117, 99, 116, 117, 114, 101], [116, 104, 101, 110], [116, 121, 112, 101], [118, 97, 108], [119, 104, 101, 114, 101]]
def isKeyword (l : T) : Bool := keywords.contains l
def head1 (p : UInt8 → Bool) : T → Bool
  | [] => false
  | c :: _ => p c
/-- What a text is. -/
def kindT : T → Int
  | [] => 0
  | b :: r => if markT (b :: r) then 11 else if isSign b && (b :: r).all isSign then 9
      else if b == 39 && head1 isSmall r && (b :: r).all isRest then 8
      else if (!isSmall b && !isGreat b) || !(b :: r).all isRest then 0
      else if isGreat b then 7 else if isKeyword (b :: r) then 10 else 6
def runLen (p : UInt8 → Bool) (l : T) : Nat := (l.takeWhile p).length
/-- How long a note is; d: how deep. -/
def noteN : T → Nat → Option Nat
  | 40 :: 42 :: r, d => (noteN r (d + 1)).map (· + 2)
  | 42 :: 41 :: r, d => if 1 < d then (noteN r (d - 1)).map (· + 2) else some 2
  | _ :: r, d => if 0 < d then (noteN r d).map (· + 1) else some 1
  | [], _ => none
/-- How long what stands behind a text's first quote is. -/
def textN : T → Option Nat
  | [] => none
  | b :: r => if b = 34 then some 1 else if b = 10 then none else if b = 92 then (match r with
      | [] => none
      | c :: r' => if c = 34 ∨ c = 92 ∨ c = 110 ∨ c = 116 then (textN r').map (· + 2) else none) else (textN r).map (· + 1)
def wordsT (l : T) (e : Nat) : Int × Nat := if kindT (l.take e) = 0 then (3, e) else (kindT (l.take e), e)
/-- The token with which a text begins: its kindT, and its length. -/
def tk (l : T) : Int × Nat := match l with
  | [] => (0, 0)
  | b :: r => if isBlank b then (1, runLen isBlank l)
      else if b = 40 ∧ r.head? = some 42 then (match noteN l 0 with | none => (3, l.length) | some n => (2, n))
      else if b = 34 then (match textN r with | none => (3, runLen (fun c => c != 10) l) | some n => (5, n + 1))
      else if isDigit b then (if runLen isDigit l < runLen isRest l then (3, runLen isRest l) else (4, runLen isRest l))
      else if isSign b then wordsT l (runLen isSign l)
      else if isRest b then wordsT l (runLen isRest l)
      else wordsT l 1
/-- The tokens of a text: kinds and lengths; f: as many at most. -/
def scanF : Nat → T → List (Int × Nat)
  | 0, _ => []
  | f + 1, l => if l = [] then [] else tk l :: scanF f (l.drop (tk l).2)
theorem runN_le (p : UInt8 → Bool) (l : T) : runLen p l ≤ l.length := by
  unfold runLen
  exact (List.takeWhile_sublist p).length_le
theorem runN_pos (p : UInt8 → Bool) (b : UInt8) (r : T) (h : p b = true) : 1 ≤ runLen p (b :: r) := by
  unfold runLen
  rw [List.takeWhile_cons, if_pos h]
  simp
theorem noteN_le : ∀ (f : Nat) (l : T) (d n : Nat), l.length ≤ f → noteN l d = some n → 1 ≤ n ∧ n ≤ l.length := by
  intro f
  induction f with
  | zero =>
    intro l d n hf h
    obtain rfl : l = [] := List.eq_nil_of_length_eq_zero (by omega)
    simp [noteN] at h
  | succ f ih =>
    intro l d n hf h
    unfold noteN at h
    split at h
    · obtain ⟨m, hm, rfl⟩ := Option.map_eq_some_iff.1 h
      have := ih _ _ _ (by simp at hf ⊢; omega) hm
      simp; omega
    · split at h
      · obtain ⟨m, hm, rfl⟩ := Option.map_eq_some_iff.1 h
        have := ih _ _ _ (by simp at hf ⊢; omega) hm
        simp; omega
      · cases h; simp
    · split at h
      · obtain ⟨m, hm, rfl⟩ := Option.map_eq_some_iff.1 h
        have := ih _ _ _ (by simp at hf ⊢; omega) hm
        simp; omega
      · cases h; simp
    · cases h
theorem textN_le : ∀ (f : Nat) (l : T) (n : Nat), l.length ≤ f → textN l = some n → 1 ≤ n ∧ n ≤ l.length := by
  intro f
  induction f with
  | zero =>
    intro l n hf h
    obtain rfl : l = [] := List.eq_nil_of_length_eq_zero (by omega)
    simp [textN] at h
  | succ f ih =>
    intro l n hf h
    unfold textN at h
    rcases l with _ | ⟨b, r⟩
    · cases h
    · simp only at h
      by_cases h1 : b = 34
      · rw [if_pos h1] at h; cases h; simp
      · rw [if_neg h1] at h
        by_cases h2 : b = 10
        · rw [if_pos h2] at h; cases h
        · rw [if_neg h2] at h
          by_cases h3 : b = 92
          · rw [if_pos h3] at h
            rcases r with _ | ⟨c, r'⟩
            · cases h
            · simp only at h
              by_cases h4 : c = 34 ∨ c = 92 ∨ c = 110 ∨ c = 116
              · rw [if_pos h4] at h
                obtain ⟨m, hm, rfl⟩ := Option.map_eq_some_iff.1 h
                have := ih _ _ (by simp at hf ⊢; omega) hm
                simp; omega
              · rw [if_neg h4] at h; cases h
          · rw [if_neg h3] at h
            obtain ⟨m, hm, rfl⟩ := Option.map_eq_some_iff.1 h
            have := ih _ _ (by simp at hf ⊢; omega) hm
            simp; omega
theorem words_len (l : T) (e : Nat) : (wordsT l e).2 = e := by unfold wordsT; split <;> rfl
theorem digit_rest (b : UInt8) (h : isDigit b = true) : isRest b = true := by simp [isRest, h]
theorem tk_len (b : UInt8) (r : T) : 1 ≤ (tk (b :: r)).2 ∧ (tk (b :: r)).2 ≤ (b :: r).length := by
  simp only [tk]
  split
  · rename_i h; exact ⟨runN_pos _ _ _ h, runN_le _ _⟩
  split
  · split
    · simp
    · rename_i n h; exact noteN_le _ _ _ _ (Nat.le_refl _) h
  split
  · rename_i h
    split
    · exact ⟨runN_pos _ _ _ (by subst h; decide), runN_le _ _⟩
    · rename_i n hn
      have := textN_le _ _ _ (Nat.le_refl _) hn
      simp; omega
  split
  · rename_i h
    have h2 := runN_pos isRest b r (digit_rest b h)
    split <;> exact ⟨h2, runN_le _ _⟩
  split
  · rename_i h; rw [words_len]; exact ⟨runN_pos _ _ _ h, runN_le _ _⟩
  split
  · rename_i h; rw [words_len]; exact ⟨runN_pos _ _ _ h, runN_le _ _⟩
  · rw [words_len]; simp
theorem scanF_fuel : ∀ (f : Nat) (l : T), l.length ≤ f → scanF f l = scanF l.length l := by
  intro f
  induction f using Nat.strongRecOn with
  | _ f ih =>
    intro l hf
    rcases l with _ | ⟨b, r⟩
    · cases f <;> simp [scanF]
    · obtain ⟨f, rfl⟩ : ∃ m, f = m + 1 := ⟨f - 1, by simp at hf; omega⟩
      have h := tk_len b r
      have hl : ((b :: r).drop (tk (b :: r)).2).length = (b :: r).length - (tk (b :: r)).2 := List.length_drop ..
      simp only [List.length_cons] at hf hl h ⊢
      simp only [scanF]
      rw [if_neg (by simp), if_neg (by simp), ih f (by omega) _ (by omega)]
      by_cases e : r.length = f
      · rw [e, ih f (by omega) _ (by omega)]
      · rw [ih r.length (by omega) _ (by omega)]
def scan (l : T) : List (Int × Nat) := scanF l.length l
theorem scan_nil : scan [] = [] := rfl
theorem scan_cons (b : UInt8) (r : T) : scan (b :: r) = tk (b :: r) :: scan ((b :: r).drop (tk (b :: r)).2) := by
  unfold scan
  have h := tk_len b r
  have hl : ((b :: r).drop (tk (b :: r)).2).length = (b :: r).length - (tk (b :: r)).2 := List.length_drop ..
  simp only [List.length_cons] at hl h ⊢
  simp only [scanF]
  rw [if_neg (by simp), scanF_fuel r.length _ (by omega)]
end Oriel.Lx

