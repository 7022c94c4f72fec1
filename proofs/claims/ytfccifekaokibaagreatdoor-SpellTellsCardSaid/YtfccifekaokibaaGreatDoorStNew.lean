/- The document's fresh names. -/
import Derived.Test.YtfccifekaokibaaGreatDoorQTx18
import Derived.Test.YtfccifekaokibaaGreatDoorQTx11
import Derived.Test.YtfccifekaokibaaGreatDoorStTak
import Derived.Test.YtfccifekaokibaaGreatDoorSpNew
namespace Oriel.Lx
theorem word_parts : ∀ b : UInt8, (isSmall b || isGreat b) = true → isSign b = false ∧ isBlank b = false ∧ b ≠ 40 ∧ b ≠ 34 ∧ isDigit b = false ∧ isRest b = true := by
  have key : ∀ n : Fin 256, (isSmall (UInt8.ofNat n.val) || isGreat (UInt8.ofNat n.val)) = true → isSign (UInt8.ofNat n.val) = false ∧ isBlank (UInt8.ofNat n.val) = false ∧ UInt8.ofNat n.val ≠ 40 ∧ UInt8.ofNat n.val ≠ 34 ∧ isDigit (UInt8.ofNat n.val) = false ∧ isRest (UInt8.ofNat n.val) = true := by decide +kernel
  intro b
  have := key ⟨b.toNat, b.toNat_lt⟩
  simpa using this
theorem kind_parts (b : UInt8) (r : T) (h : kindT (b :: r) = 6 ∨ kindT (b :: r) = 7 ∨ kindT (b :: r) = 9) :
    (isSign b = true ∧ (b :: r).all isSign = true) ∨ ((isSmall b || isGreat b) = true ∧ (b :: r).all isRest = true) := by
  unfold kindT at h
  dsimp only at h
  by_cases hm : markT (b :: r) = true
  · rw [if_pos hm] at h; omega
  · rw [if_neg hm] at h
    by_cases hs : (isSign b && (b :: r).all isSign) = true
    · rw [Bool.and_eq_true] at hs
      exact .inl hs
    · rw [if_neg hs] at h
      by_cases hq : (b == 39 && head1 isSmall r && (b :: r).all isRest) = true
      · rw [if_pos hq] at h; omega
      · rw [if_neg hq] at h
        by_cases hw : ((!isSmall b && !isGreat b) || !(b :: r).all isRest) = true
        · rw [if_pos hw] at h; omega
        · rw [Bool.not_eq_true, Bool.or_eq_false_iff] at hw
          obtain ⟨h1, h2⟩ := hw
          refine .inr ⟨?_, by simpa using h2⟩
          cases hsm : isSmall b
          · cases hgr : isGreat b
            · rw [hsm, hgr] at h1; cases h1
            · rfl
          · rfl
end Oriel.Lx
namespace Go.Proofs.YtfccifekaokibaaGreatDoor.Rf
open Go.RowKit Go.Proofs.YtfccifekaokibaaGreatDoor.QT Go.Proofs.YtfccifekaokibaaGreatDoorW.PrintWords Go.Proofs.YtfccifekaokibaaGreatDoorW.PrintLast Oriel.Lx Go.Proofs.YtfccifekaokibaaGreatDoor.Lx Go.Proofs.YtfccifekaokibaaGreatDoor.Sp
theorem ralike_ev (a b : ByteArray) (ha : a.size ≤ 140737488351232) (hb : b.size ≤ 140737488351232) : Ev (fun k => orielref04_Alike.f k a b) (alikeT a.data.toList b.data.toList) := by
  obtain ⟨K1, h1⟩ := rkind_ev a ha
  obtain ⟨K2, h2⟩ := rkind_ev b hb
  obtain ⟨K3, h3⟩ := rlevel_ev a ha
  obtain ⟨K4, h4⟩ := rlevel_ev b hb
  refine ⟨K1 + K2 + K3 + K4, fun k hk => ?_⟩
  simp only [orielref04_Alike.f, h1 k (by omega), h2 k (by omega), h3 k (by omega), h4 k (by omega), Option.bind_some, alikeT]
  by_cases e : kindT a.data.toList = kindT b.data.toList
  · rw [if_pos e, if_pos e]
    by_cases h6 : kindT a.data.toList = 6
    · have e1 : levT a.data.toList = (0, false) := by unfold levT; rw [if_neg (by omega)]
      have e2 : levT b.data.toList = (0, false) := by unfold levT; rw [if_neg (by omega)]
      simp [h6, e1, e2]
    · by_cases h7 : kindT a.data.toList = 7
      · have e1 : levT a.data.toList = (0, false) := by unfold levT; rw [if_neg (by omega)]
        have e2 : levT b.data.toList = (0, false) := by unfold levT; rw [if_neg (by omega)]
        simp [h7, e1, e2]
      · by_cases h9 : kindT a.data.toList = 9
        · simp only [h9]
          (repeat' split) <;> first | rfl | (simp_all; done)
        · simp [h6, h7, h9]
  · rw [if_neg e, if_neg e]
theorem num_one (m : Nat) (h : m < 10) : strOfNums [(wrap64 (48 + (m : Int))) % 256] = txt [UInt8.ofNat (48 + m)] := by
  have hd : ∀ m : Fin 10, strOfNums [(wrap64 (48 + (m.val : Int))) % 256] = txt [UInt8.ofNat (48 + m.val)] := by decide +kernel
  exact hd ⟨m, h⟩
theorem digits_l (d : Nat) : ∀ (n i : Nat) (s : ByteArray), n < 10 ^ (d + 1) → i + d + 1 ≤ 20 → n ≤ 1000000000 → s.size ≤ i →
    Ev (fun k => orielref04_Digits.l0 k (n : Int) s (i : Int)) (txt (Go.Lib.decDigits n) ++ s) := by
  induction d with
  | zero =>
    intro n i s hn hi hb hs
    have h10 : n < 10 := by simpa using hn
    have t1 : Int.tmod (n : Int) 10 = ((n % 10 : Nat) : Int) := (Int.ofNat_tmod n 10).symm
    have t2 : Int.tdiv (n : Int) 10 = ((n / 10 : Nat) : Int) := (Int.ofNat_tdiv n 10).symm
    have e1 : n % 10 = n := by omega
    have e2 : n / 10 = 0 := by omega
    have hd : Go.Lib.decDigits n = [UInt8.ofNat (48 + n)] := by rw [Go.Lib.decDigits, dif_pos h10]
    refine Ev.step (f := fun _ => some (txt (Go.Lib.decDigits n) ++ s)) (fun k => ?_) (Ev.now _)
    rw [orielref04_Digits.l0, if_pos (by omega), t1, t2, e1, e2]
    simp only [Option.bind_some]
    rw [num_one n h10, if_pos (by rw [txt_size]; simp; omega), if_pos (by unfold wrap64; omega), hd]
  | succ d ih =>
    intro n i s hn hi hb hs
    have t1 : Int.tmod (n : Int) 10 = ((n % 10 : Nat) : Int) := (Int.ofNat_tmod n 10).symm
    have t2 : Int.tdiv (n : Int) 10 = ((n / 10 : Nat) : Int) := (Int.ofNat_tdiv n 10).symm
    have hw : wrap64 ((n / 10 : Nat) : Int) = ((n / 10 : Nat) : Int) := by unfold wrap64; omega
    have hz : (txt [UInt8.ofNat (48 + n % 10)]).size = 1 := by rw [txt_size]; rfl
    have base : ∀ k, orielref04_Digits.l0 (k + 1) (n : Int) s (i : Int) = if ((n / 10 : Nat) : Int) = 0 then some (txt [UInt8.ofNat (48 + n % 10)] ++ s) else orielref04_Digits.l0 k ((n / 10 : Nat) : Int) (txt [UInt8.ofNat (48 + n % 10)] ++ s) ((i + 1 : Nat) : Int) := by
      intro k
      rw [orielref04_Digits.l0, if_pos (by omega), t1, t2]
      simp only [Option.bind_some]
      rw [num_one (n % 10) (by omega), if_pos (by rw [hz]; omega), hw, wrap_nat i (by omega)]
    by_cases h10 : n < 10
    · have e1 : n % 10 = n := by omega
      have hd : Go.Lib.decDigits n = [UInt8.ofNat (48 + n)] := by rw [Go.Lib.decDigits, dif_pos h10]
      refine Ev.step (f := fun _ => some (txt (Go.Lib.decDigits n) ++ s)) (fun k => ?_) (Ev.now _)
      rw [base, if_pos (by omega), hd, e1]
    · have hd : Go.Lib.decDigits n = Go.Lib.decDigits (n / 10) ++ [UInt8.ofNat (48 + n % 10)] := by
        conv => lhs; rw [Go.Lib.decDigits, dif_neg h10]
      refine Ev.step (f := fun k => orielref04_Digits.l0 k ((n / 10 : Nat) : Int) (txt [UInt8.ofNat (48 + n % 10)] ++ s) ((i + 1 : Nat) : Int)) (fun k => by rw [base, if_neg (by omega)]) ?_
      have hp : n / 10 < 10 ^ (d + 1) := by
        rw [Nat.pow_succ] at hn
        omega
      have := ih (n / 10) (i + 1) (txt [UInt8.ofNat (48 + n % 10)] ++ s) hp (by omega) (by omega) (by rw [ByteArray.size_append, hz]; omega)
      rw [hd, ← txt_append, ByteArray.append_assoc]
      exact this
theorem digits_ev (n : Nat) (h : n ≤ 200000) : Ev (fun k => orielref04_Digits.f k (n : Int)) (txt (Go.Lib.decDigits n)) := by
  have := digits_l 5 n 0 ⟨#[]⟩ (by omega) (by omega) (by omega) (by decide)
  rw [show txt (Go.Lib.decDigits n) ++ (⟨#[]⟩ : ByteArray) = txt (Go.Lib.decDigits n) from ByteArray.append_empty] at this
  exact this
def lettersL (up : Bool) : List ByteArray := if up then [⟨#[88]⟩, ⟨#[89]⟩, ⟨#[90]⟩] else [⟨#[120]⟩, ⟨#[121]⟩, ⟨#[122]⟩]
theorem letter_at (up : Bool) (j : Nat) (h : j < 3) : rdOf ByteArray.empty (lettersL up) (j : Int) = txt [letter up j] := by
  have hd : ∀ j : Fin 3, rdOf ByteArray.empty (lettersL up) (j.val : Int) = txt [letter up j.val] := by cases up <;> decide +kernel
  exact hd ⟨j, h⟩
theorem rfresh_walk (up : Bool) (l : List ByteArray) (hl : l.length ≤ 1000000) (i0 : Nat) (hi : i0 ≤ 200000) (hil : i0 ≤ l.length) (h0 : (l.map (·.data.toList)).contains (cand up i0) = false) (hb : ∀ j, j < i0 → (l.map (·.data.toList)).contains (cand up j) = true) :
    ∀ d c : Nat, i0 - c = d → c ≤ i0 → Ev (fun k => orielref04_Fresh.l0 k l (lettersL up) (c : Int)) (txt (cand up i0), true) := by
  have hll : (lettersL up).length = 3 := by cases up <;> rfl
  have one : ∀ c : Nat, c ≤ i0 → ∃ K, ∀ k, K ≤ k → orielref04_Fresh.l0 (k + 1) l (lettersL up) (c : Int) = if (l.map (·.data.toList)).contains (cand up c) = true then orielref04_Fresh.l0 k l (lettersL up) ((c + 1 : Nat) : Int) else some (txt (cand up c), true) := by
    intro c hc
    obtain ⟨K, hk⟩ := in_ev l hl (txt (cand up c))
    obtain ⟨K2, hk2⟩ := digits_ev (c / 3) (by omega)
    refine ⟨K + K2, fun k hk' => ?_⟩
    have e := hk k (by omega)
    have e2 := hk2 k (by omega)
    dsimp only at e e2
    rw [txt_list] at e
    have hm : c % 3 < 3 := by omega
    have p1 : (c : Int) ≤ (l.length : Int) := by omega
    have p2 : (0 : Int) ≤ ((c % 3 : Nat) : Int) := by omega
    have p3 : ((c % 3 : Nat) : Int) < ((3 : Nat) : Int) := by omega
    have p5 : wrap64 ((c : Int) + 1) = ((c + 1 : Nat) : Int) := wrap_nat c (by omega)
    have p6 : c < 3 → ¬ (c : Int) ≥ 3 := by omega
    have p7 : ¬ c < 3 → (c : Int) ≥ 3 := by omega
    have t3 : wrap64 ((c / 3 : Nat) : Int) = ((c / 3 : Nat) : Int) := by unfold wrap64; omega
    have t1 : Int.tmod (c : Int) 3 = ((c % 3 : Nat) : Int) := (Int.ofNat_tmod c 3).symm
    have t2 : Int.tdiv (c : Int) 3 = ((c / 3 : Nat) : Int) := (Int.ofNat_tdiv c 3).symm
    rw [orielref04_Fresh.l0, if_pos p1, t1, t2, t3, if_pos p2, hll, if_pos p3, letter_at up _ hm, p5]
    by_cases h3 : c < 3
    · have ht : cand up c = [letter up (c % 3)] := by unfold cand tail; rw [if_pos h3]
      rw [ht] at e ⊢
      rw [if_neg (p6 h3), e]
      rfl
    · have ht : cand up c = [letter up (c % 3)] ++ Go.Lib.decDigits (c / 3) := by unfold cand tail; rw [if_neg h3]; rfl
      have hsz : (txt [letter up (c % 3)]).size + (txt (Go.Lib.decDigits (c / 3))).size ≤ 9223372036854775807 := by
        rw [txt_size, txt_size]
        exact dec_short _ (by omega) _
      rw [ht] at e ⊢
      rw [if_pos (p7 h3), e2]
      simp only [Option.bind_some]
      rw [if_pos hsz, txt_append, e]
      rfl
  intro d
  induction d with
  | zero =>
    intro c hd hc
    obtain rfl : c = i0 := by omega
    obtain ⟨K, hk⟩ := one c hc
    refine ⟨K + 1, fun k hk' => ?_⟩
    obtain ⟨k, rfl⟩ : ∃ m, k = m + 1 := ⟨k - 1, by omega⟩
    dsimp only
    rw [hk k (by omega), h0]
    rfl
  | succ d ih =>
    intro c hd hc
    obtain ⟨K, hk⟩ := one c hc
    obtain ⟨K2, hk2⟩ := ih (c + 1) (by omega) (by omega)
    refine ⟨K + K2 + 1, fun k hk' => ?_⟩
    obtain ⟨k, rfl⟩ : ∃ m, k = m + 1 := ⟨k - 1, by omega⟩
    dsimp only
    rw [hk k (by omega), hb c (by omega), if_pos rfl]
    exact hk2 k (by omega)
theorem rfresh_in (sp : Int) (up : Bool) (hsp : (sp = 1 ∧ up = false) ∨ (sp = 4 ∧ up = true)) (l : List ByteArray) (hl : l.length ≤ 1000000) (i0 : Nat) (hi : i0 ≤ 200000) (hil : i0 ≤ l.length) (h0 : (l.map (·.data.toList)).contains (cand up i0) = false) (hb : ∀ j, j < i0 → (l.map (·.data.toList)).contains (cand up j) = true) :
    Ev (fun k => orielref04_Fresh.f k sp l) (txt (cand up i0), true) := by
  have w := rfresh_walk up l hl i0 hi hil h0 hb i0 0 (by omega) (by omega)
  have j2 : Ev (fun k => orielref04_Fresh.j2 k l (lettersL up)) (txt (cand up i0), true) :=
    Ev.step (f := fun k => orielref04_Fresh.l0 k l (lettersL up) 0) (fun k => by rw [orielref04_Fresh.j2]) w
  have hj1 : Ev (fun k => orielref04_Fresh.j1 k l [⟨#[88]⟩, ⟨#[89]⟩, ⟨#[90]⟩] (!up)) (txt (cand up i0), true) := by
    unfold lettersL at j2
    cases up with
    | true => exact Ev.step (f := fun k => orielref04_Fresh.j2 k l [⟨#[88]⟩, ⟨#[89]⟩, ⟨#[90]⟩]) (fun k => by rw [orielref04_Fresh.j1, if_neg (by simp)]) j2
    | false => exact Ev.step (f := fun k => orielref04_Fresh.j2 k l [⟨#[120]⟩, ⟨#[121]⟩, ⟨#[122]⟩]) (fun k => by rw [orielref04_Fresh.j1, if_pos (show (!false) = true from rfl)]) j2
  have hj0 : Ev (fun k => orielref04_Fresh.j0 k sp l false) (txt (cand up i0), true) := by
    refine Ev.step (f := fun k => orielref04_Fresh.j1 k l [⟨#[88]⟩, ⟨#[89]⟩, ⟨#[90]⟩] (!up)) (fun k => ?_) hj1
    rw [orielref04_Fresh.j0, if_neg (by simp)]
    simp only [Option.bind_some]
    rcases hsp with ⟨rfl, rfl⟩ | ⟨rfl, rfl⟩ <;> rfl
  unfold orielref04_Fresh.f
  rcases hsp with ⟨rfl, rfl⟩ | ⟨rfl, rfl⟩ <;> exact hj0
theorem word_both (l : List F) (h : FewS l) (s : ByteArray) (hs : s.size ≤ 100) (sp : Int) (up : Bool) (hsp : (sp = 1 ∧ up = false) ∨ (sp = 4 ∧ up = true)) (hk : kindT s.data.toList = if up then 7 else 6) :
    ∃ a : ByteArray × Bool, Ev (fun k => spell_Fresh.f k s l) a ∧ Ev (fun k => orielref16_Fresh.f k s l) a := by
  have hF := h.big
  have hlen : (keysL l).length ≤ 6004 := by
    have := keysL_lenB 1500 l h.2
    have := h.1
    omega
  have hlm : ((keysL l).map ofL).length = (keysL l).length := List.length_map ..
  obtain ⟨i0, h1, h2, h3, h4⟩ := fresh_of sp up hsp ((keysL l).map ofL) (by omega)
  have h5 := rfresh_in sp up hsp ((keysL l).map ofL) (by omega) i0 (by omega) h1 h2 h3
  obtain ⟨K1, e1⟩ := kind_ev s (by omega)
  obtain ⟨K2, e2⟩ := taken_ev l hF
  obtain ⟨K3, e3⟩ := h4
  obtain ⟨K4, e4⟩ := rkind_ev s (by omega)
  obtain ⟨K5, e5⟩ := xtaken_ev l hF
  obtain ⟨K6, e6⟩ := h5
  rw [hk] at e1 e4
  refine ⟨(txt (cand up i0), true), ⟨K1 + K2 + K3, fun k hk2 => ?_⟩, ⟨K4 + K5 + K6, fun k hk2 => ?_⟩⟩
  · have f1 := e1 k (by omega)
    have f2 := e2 k (by omega)
    have f3 := e3 k (by omega)
    dsimp only at f1 f2 f3
    unfold spell_Fresh.f
    dsimp only
    rcases hsp with ⟨rfl, rfl⟩ | ⟨rfl, rfl⟩
    · have f0 : name_Kind.f k s = some 6 := f1
      rw [f0, Option.bind_some, if_pos rfl, f2, Option.bind_some, f3]
    · have f0 : name_Kind.f k s = some 7 := f1
      rw [f0, Option.bind_some, if_neg (by decide), if_pos rfl, f2, Option.bind_some, f3]
  · have f1 := e4 k (by omega)
    have f2 := e5 k (by omega)
    have f3 := e6 k (by omega)
    dsimp only at f1 f2 f3
    unfold orielref16_Fresh.f
    dsimp only
    rcases hsp with ⟨rfl, rfl⟩ | ⟨rfl, rfl⟩
    · have f0 : orielref04_Kind.f k s = some 6 := f1
      rw [f0, Option.bind_some, if_pos rfl, f2, Option.bind_some, f3, Option.bind_some]
    · have f0 : orielref04_Kind.f k s = some 7 := f1
      rw [f0, Option.bind_some, if_neg (by decide), if_pos rfl, f2, Option.bind_some, f3, Option.bind_some]
/-! ### signs -/
theorem gp_none (l : List F) (x : T) (hx : x ∉ keysL l) : (Gp (spellP 0 l) x).length = 0 := by
  apply Classical.byContradiction
  intro h0
  apply hx
  unfold keysL
  rw [(List.mergeSort_perm _ _).mem_iff, ddk_mem]
  unfold Gp at h0
  rw [List.length_map] at h0
  obtain ⟨p, hp⟩ := List.exists_mem_of_length_pos (Nat.pos_of_ne_zero h0)
  obtain ⟨h1, h2⟩ := List.mem_filter.1 hp
  exact List.mem_map.2 ⟨p, h1, by simpa using h2⟩
theorem cont_mem (L : List T) (x : T) : L.contains x = true ↔ x ∈ L := by simp
def rep (c : UInt8) (n : Nat) : ByteArray := txt (List.replicate n c)
theorem rep_list (c : UInt8) (n : Nat) : (rep c n).data.toList = List.replicate n c := txt_list _
theorem rep_size (c : UInt8) (n : Nat) : (rep c n).size = n := by rw [← len, rep_list, List.length_replicate]
theorem rep_snoc (c : UInt8) (n : Nat) : rep c n ++ rep c 1 = rep c (n + 1) := by
  unfold rep
  rw [txt_append, List.replicate_append_replicate]
theorem rep_kind (c : UInt8) (hc : isSign c = true) (n : Nat) : kindT (List.replicate (n + 2) c) = 9 := by
  have hm : markT (c :: c :: List.replicate n c) = false := by
    unfold markT
    have : reserved (c :: c :: List.replicate n c) = false := by
      unfold reserved
      cases n with
      | succ n => simp [List.replicate_succ]
      | zero =>
        have key : ∀ m : Fin 256, (([UInt8.ofNat m.val, UInt8.ofNat m.val] : T) == [61] || [UInt8.ofNat m.val, UInt8.ofNat m.val] == [61, 62] || [UInt8.ofNat m.val, UInt8.ofNat m.val] == [124] || [UInt8.ofNat m.val, UInt8.ofNat m.val] == [58] || [UInt8.ofNat m.val, UInt8.ofNat m.val] == [58, 62] || [UInt8.ofNat m.val, UInt8.ofNat m.val] == [45, 62]) = false := by decide +kernel
        have := key ⟨c.toNat, c.toNat_lt⟩
        simpa using this
    rw [this]
    rfl
  have hall : (c :: c :: List.replicate n c).all isSign = true := by
    rw [List.all_eq_true]
    intro b hb
    have : b = c := by
      rcases List.mem_cons.1 hb with e | hb
      · exact e
      · rcases List.mem_cons.1 hb with e | hb
        · exact e
        · exact (List.mem_replicate.1 hb).2
    rw [this]
    exact hc
  rw [List.replicate_succ, List.replicate_succ]
  unfold kindT
  dsimp only
  rw [hm, hc, hall]
  rfl
theorem rep_alike (c : UInt8) (r : T) (hc : isSign c = true) (hk : kindT (c :: r) = 9) (n : Nat) : alikeT (List.replicate (n + 2) c) (c :: r) = true := by
  have hl : levT (List.replicate (n + 2) c) = levT (c :: r) := by
    unfold levT
    rw [rep_kind c hc n, hk]
    rfl
  unfold alikeT
  rw [rep_kind c hc n, hk, if_pos rfl, if_pos rfl, hl, if_pos rfl]
  simp
theorem sign_both (l : List F) (h : FewS l) (s : ByteArray) (hs : s.size ≤ 100) (hk : kindT s.data.toList = 9) : ∃ a : ByteArray × Bool, Ev (fun k => spell_Fresh.f k s l) a ∧ Ev (fun k => orielref16_Fresh.f k s l) a := by
  have hF := h.big
  obtain ⟨c, r, hcr⟩ : ∃ c r, s.data.toList = c :: r := by
    cases e : s.data.toList with
    | nil => rw [e] at hk; exact absurd hk (by decide)
    | cons c r => exact ⟨c, r, rfl⟩
  have hc : isSign c = true := by
    rw [hcr] at hk
    rcases kind_parts c r (.inr (.inr hk)) with ⟨h1, _⟩ | ⟨h1, h2⟩
    · exact h1
    · unfold kindT at hk
      dsimp only at hk
      have hns := (word_parts c h1).1
      rw [hns] at hk
      by_cases hm : markT (c :: r) = true
      · rw [if_pos hm] at hk; omega
      · rw [if_neg hm, if_neg (by simp)] at hk
        by_cases hq : (c == 39 && head1 isSmall r && (c :: r).all isRest) = true
        · rw [if_pos hq] at hk; omega
        · rw [if_neg hq] at hk
          by_cases hw : ((!isSmall c && !isGreat c) || !(c :: r).all isRest) = true
          · rw [if_pos hw] at hk; omega
          · rw [if_neg hw] at hk
            by_cases hgr : isGreat c = true
            · rw [if_pos hgr] at hk; omega
            · rw [if_neg hgr] at hk
              split at hk <;> omega
  have hsz : 1 ≤ s.size := by rw [← len, hcr]; simp
  have hext : s.extract 0 1 = rep c 1 := by
    apply ByteArray.ext
    apply Array.ext'
    rw [ByteArray.data_extract, Array.toList_extract, hcr]
    simp [List.extract, rep, txt]
  -- the first that is not taken
  obtain ⟨N, hN1, hN2, hN3⟩ := least (fun n => (keysL l).contains (List.replicate (n + 2) c)) 1500 ⟨1500, Nat.le_refl _, by
    rw [← Bool.not_eq_true]
    intro hm
    have hm2 : List.replicate (1500 + 2) c ∈ keysL l := (cont_mem _ _).1 hm
    obtain ⟨f, hf, t, _, hx⟩ := (keysL_mem _ l).1 hm2
    have h1 := key_le f.f1 t
    rw [hx, List.length_replicate] at h1
    have := h.2 f hf
    omega⟩
  have hal : ∀ M : Nat, M ≤ 2000 → ∃ K, ∀ k, K ≤ k → ∀ n, n ≤ M → name_Alike.f k (rep c (n + 2)) s = some true := by
    have one : ∀ n : Nat, n ≤ 2000 → Ev (fun k => name_Alike.f k (rep c (n + 2)) s) true := by
      intro n hn
      have := alike_ev (rep c (n + 2)) s (by rw [rep_size]; omega) (by omega)
      rw [rep_list, hcr, rep_alike c r hc (by rw [← hcr]; exact hk) n] at this
      exact this
    intro M
    induction M with
    | zero =>
      intro _
      obtain ⟨K, hK⟩ := one 0 (by omega)
      refine ⟨K, fun k hk n hn => ?_⟩
      obtain rfl : n = 0 := by omega
      exact hK k hk
    | succ M ih =>
      intro hM
      obtain ⟨K, hK⟩ := ih (by omega)
      obtain ⟨K2, hK2⟩ := one (M + 1) hM
      refine ⟨K + K2, fun k hk n hn => ?_⟩
      rcases Nat.lt_or_ge n (M + 1) with g | g
      · exact hK k (by omega) n (by omega)
      · obtain rfl : n = M + 1 := by omega
        exact hK2 k (by omega)
  obtain ⟨K0, hK0⟩ := hal 1500 (by omega)
  have hin : ∀ n, n < N → List.replicate (n + 2) c ∈ keysL l := fun n hn => (cont_mem _ _).1 (hN3 n hn)
  have hout : List.replicate (N + 2) c ∉ keysL l := by
    rw [← Bool.not_eq_true] at hN2
    intro hm
    exact hN2 ((cont_mem _ _).2 hm)
  have lp : ∀ k, K0 ≤ k → ∀ d n g, N - n = d → n ≤ N → d < g → frLoop k s (rep c 1) (spellP 0 l) g (rep c (n + 2)) = some (rep c (N + 2)) := by
    intro k hk d
    induction d with
    | zero =>
      intro n g hd hn hg
      obtain rfl : n = N := by omega
      obtain ⟨g, rfl⟩ : ∃ q, g = q + 1 := ⟨g - 1, by omega⟩
      unfold frLoop
      rw [if_pos (by rw [rep_size]; omega), hK0 k hk n (by omega), Option.bind_some, if_pos rfl, rep_list, if_pos (gp_none l _ hout)]
    | succ d ih =>
      intro n g hd hn hg
      obtain ⟨g, rfl⟩ : ∃ q, g = q + 1 := ⟨g - 1, by omega⟩
      unfold frLoop
      rw [if_pos (by rw [rep_size]; omega), hK0 k hk n (by omega), Option.bind_some, if_pos rfl, rep_list, if_neg (gp_some l _ (hin n (by omega))), rep_snoc]
      exact ih (n + 1) g (by omega) (by omega) (by omega)
  have hNk : N ≤ (keysL l).length := by
    have hnd : ((List.range N).map fun n => List.replicate (n + 2) c).Nodup := by
      refine List.pairwise_map.2 ((List.nodup_range).imp ?_)
      intro a b hab e
      have := congrArg List.length e
      simp at this
      exact hab this
    have := nodup_le _ (keysL l) hnd (by
      intro x hx
      obtain ⟨n, hn, rfl⟩ := List.mem_map.1 hx
      exact hin n (List.mem_range.1 hn))
    simpa using this
  have hlen := keysL_len l hF
  have hlm : ((keysL l).map ofL).length = (keysL l).length := List.length_map ..
  have alR : ∀ n : Nat, n ≤ 2000 → Ev (fun k => orielref04_Alike.f k (rep c (n + 2)) s) true := by
    intro n hn
    have := ralike_ev (rep c (n + 2)) s (by rw [rep_size]; omega) (by omega)
    rw [rep_list, hcr, rep_alike c r hc (by rw [← hcr]; exact hk) n] at this
    exact this
  have stR : ∀ k n : Nat, n ≤ N → orielref16_Fresh.l0 (k + 1) s ((keysL l).map ofL) (rep c (n + 1)) (n : Int) = (orielref04_Alike.f k (rep c (n + 2)) s).bind fun t => (if t = true then ((orielref04_In.f k ((keysL l).map ofL) (rep c (n + 2))).bind fun t2 => (if t2 = true then (orielref16_Fresh.l0 k s ((keysL l).map ofL) (rep c (n + 2)) ((n + 1 : Nat) : Int)) else (some (rep c (n + 2), true)))) else (orielref16_Fresh.l0 k s ((keysL l).map ofL) (rep c (n + 2)) ((n + 1 : Nat) : Int))) := by
    intro k n hn
    rw [orielref16_Fresh.l0, if_pos (by unfold wrap64; omega), if_pos (by omega), if_pos (by omega), hext, if_pos (by rw [rep_size, rep_size]; omega), rep_snoc, wrap_nat n (by omega)]
  have lpR : ∀ d n : Nat, N - n = d → n ≤ N → Ev (fun k => orielref16_Fresh.l0 k s ((keysL l).map ofL) (rep c (n + 1)) (n : Int)) (rep c (N + 2), true) := by
    intro d
    induction d with
    | zero =>
      intro n hd hn
      obtain rfl : n = N := by omega
      have hI := in_ev ((keysL l).map ofL) (by omega) (rep c (n + 2))
      rw [map_back, rep_list, hN2] at hI
      refine Ev.step (fun k => stR k n hn) ?_
      refine Ev.bind (f := fun k (t : Bool) => (if t = true then ((orielref04_In.f k ((keysL l).map ofL) (rep c (n + 2))).bind fun t2 => (if t2 = true then (orielref16_Fresh.l0 k s ((keysL l).map ofL) (rep c (n + 2)) ((n + 1 : Nat) : Int)) else (some (rep c (n + 2), true)))) else (orielref16_Fresh.l0 k s ((keysL l).map ofL) (rep c (n + 2)) ((n + 1 : Nat) : Int)))) (alR n (by omega)) ?_
      simp only [if_true]
      exact Ev.bind (f := fun k (t2 : Bool) => (if t2 = true then (orielref16_Fresh.l0 k s ((keysL l).map ofL) (rep c (n + 2)) ((n + 1 : Nat) : Int)) else (some (rep c (n + 2), true)))) hI (Ev.now _)
    | succ d ih =>
      intro n hd hn
      have hI := in_ev ((keysL l).map ofL) (by omega) (rep c (n + 2))
      rw [map_back, rep_list, hN3 n (by omega)] at hI
      refine Ev.step (fun k => stR k n hn) ?_
      refine Ev.bind (f := fun k (t : Bool) => (if t = true then ((orielref04_In.f k ((keysL l).map ofL) (rep c (n + 2))).bind fun t2 => (if t2 = true then (orielref16_Fresh.l0 k s ((keysL l).map ofL) (rep c (n + 2)) ((n + 1 : Nat) : Int)) else (some (rep c (n + 2), true)))) else (orielref16_Fresh.l0 k s ((keysL l).map ofL) (rep c (n + 2)) ((n + 1 : Nat) : Int)))) (alR n (by omega)) ?_
      simp only [if_true]
      refine Ev.bind (f := fun k (t2 : Bool) => (if t2 = true then (orielref16_Fresh.l0 k s ((keysL l).map ofL) (rep c (n + 2)) ((n + 1 : Nat) : Int)) else (some (rep c (n + 2), true)))) hI ?_
      simp only [if_true]
      exact ih (n + 1) (by omega) (by omega)
  refine ⟨(rep c (N + 2), true), ?_, ?_⟩
  · obtain ⟨K1, e1⟩ := kind_ev s (by omega)
    obtain ⟨K2, e2⟩ := spelled_ev l hF
    rw [hk] at e1
    refine ⟨K1 + K2 + K0 + N + 3, fun k hk2 => ?_⟩
    have f1 := e1 k (by omega)
    have f2 := e2 k (by omega)
    dsimp only at f1 f2
    have f3 := lp k (by omega) N 0 k (by omega) (by omega) (by omega)
    unfold spell_Fresh.f
    dsimp only
    rw [f1, Option.bind_some, if_neg (by decide), if_neg (by decide), if_pos rfl, f2, Option.bind_some, if_pos hsz, hext, rep_snoc, f3, Option.bind_some]
  · obtain ⟨K1, e1⟩ := rkind_ev s (by omega)
    obtain ⟨K2, e2⟩ := xtaken_ev l hF
    obtain ⟨K3, e3⟩ := lpR N 0 (by omega) (by omega)
    rw [hk] at e1
    refine ⟨K1 + K2 + K3, fun k hk2 => ?_⟩
    have f1 := e1 k (by omega)
    have f2 := e2 k (by omega)
    have f3 := e3 k (by omega)
    dsimp only at f1 f2 f3
    unfold orielref16_Fresh.f
    dsimp only
    rw [f1, Option.bind_some, if_neg (by decide), if_neg (by decide), if_pos rfl, f2, Option.bind_some, if_pos (by omega), if_pos (by omega), hext]
    exact f3
theorem none_both (l : List F) (s : ByteArray) (hs : s.size ≤ 100) (hk : ¬ (kindT s.data.toList = 6 ∨ kindT s.data.toList = 7 ∨ kindT s.data.toList = 9)) :
    ∃ a : ByteArray × Bool, Ev (fun k => spell_Fresh.f k s l) a ∧ Ev (fun k => orielref16_Fresh.f k s l) a := by
  obtain ⟨K1, e1⟩ := kind_ev s (by omega)
  obtain ⟨K2, e2⟩ := rkind_ev s (by omega)
  refine ⟨(⟨#[]⟩, false), ⟨K1, fun k h => ?_⟩, ⟨K2, fun k h => ?_⟩⟩
  · have f1 := e1 k (by omega)
    dsimp only at f1
    unfold spell_Fresh.f
    dsimp only
    rw [f1, Option.bind_some, if_neg (fun e => hk (.inl e)), if_neg (fun e => hk (.inr (.inl e))), if_neg (fun e => hk (.inr (.inr e)))]
  · have f1 := e2 k (by omega)
    dsimp only at f1
    unfold orielref16_Fresh.f
    dsimp only
    rw [f1, Option.bind_some, if_neg (fun e => hk (.inl e)), if_neg (fun e => hk (.inr (.inl e))), if_neg (fun e => hk (.inr (.inr e)))]
end Go.Proofs.YtfccifekaokibaaGreatDoor.Rf

