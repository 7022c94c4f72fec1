/- NameWords: keywords rise, and none may be a name; what is made of one. No condition. -/
import Derived.Test.YtcccambfcedakaaDoorWd
import Derived.Test.YtcccambfcedakaaDoorNmRef
namespace Go.Proofs.YtcccambfcedakaaDoor.Pure
open Go.RowKit Go.Proofs.YtcccambfcedakaaDoor.QD Go.Proofs.YtcccambfcedakaaDoorW.PrintWords Go.Proofs.YtcccambfcedakaaDoorW.PrintLast Oriel.Lx Go.Proofs.YtcccambfcedakaaDoor.Lx
def kwAt (j : Nat) : ByteArray := rdOf ByteArray.empty kws (j : Int)
theorem kw_kind (j : Nat) (h : j < 25) : kindT (kwAt j).data.toList = 10 := by
  have hd : ∀ j : Fin 25, kindT (kwAt j.val).data.toList = 10 := by decide +kernel
  exact hd ⟨j, h⟩
theorem kw_rise (j : Nat) (h : j + 1 < 25) : Op.bytesLess (kwAt j).data.toList (kwAt (j + 1)).data.toList = true := by
  have hd : ∀ j : Fin 24, Op.bytesLess (kwAt j.val).data.toList (kwAt (j.val + 1)).data.toList = true := by decide +kernel
  exact hd ⟨j, by omega⟩
theorem kw_size (j : Nat) (h : j < 25) : 1 ≤ (kwAt j).size ∧ (kwAt j).size ≤ 20 := by
  have hd : ∀ j : Fin 25, 1 ≤ (kwAt j.val).size ∧ (kwAt j.val).size ≤ 20 := by decide +kernel
  exact hd ⟨j, h⟩
def kindC (j : Nat) (c : UInt8) : Int := kindT ((kwAt j).data.toList ++ [c])
theorem kw_more (j : Nat) (h : j < 25) (c : UInt8) : (if isRest c = true then (kindC j c == 6 || kindC j c == 10) else kindC j c == 0) = true := by
  have hd : ∀ j : Fin 25, ∀ n : Fin 256, (if isRest (UInt8.ofNat n.val) = true then (kindC j.val (UInt8.ofNat n.val) == 6 || kindC j.val (UInt8.ofNat n.val) == 10) else kindC j.val (UInt8.ofNat n.val) == 0) = true := by decide +kernel
  have := hd ⟨j, h⟩ ⟨c.toNat, c.toNat_lt⟩
  simpa using this
def upOf (j : Nat) : ByteArray := strOfNums [((bt (kwAt j) 0) - 32) % 256] ++ (kwAt j).extract 1 (kwAt j).size
theorem kw_up (j : Nat) (h : j < 25) : kindT (upOf j).data.toList = 7 ∧ (upOf j).size ≤ 30 ∧ (strOfNums [((bt (kwAt j) 0) - 32) % 256]).size + ((kwAt j).extract 1 (kwAt j).size).size ≤ 100 := by
  have hd : ∀ j : Fin 25, kindT (upOf j.val).data.toList = 7 ∧ (upOf j.val).size ≤ 30 ∧ (strOfNums [((bt (kwAt j.val) 0) - 32) % 256]).size + ((kwAt j.val).extract 1 (kwAt j.val).size).size ≤ 100 := by decide +kernel
  exact hd ⟨j, h⟩
theorem num_one (c : UInt8) : strOfNums [(c.toNat : Int)] = ⟨#[c]⟩ := by
  refine all_bytes (P := fun c => strOfNums [(c.toNat : Int)] = ⟨#[c]⟩) ?_ c
  decide +kernel
theorem idx_ok (n : Int) : ∃ j : Nat, j < 25 ∧ Int.tmod (wrap64 (Int.tmod n 25 + 25)) 25 = (j : Int) := by
  have h1 : -25 < Int.tmod n 25 := Int.lt_tmod_of_pos n (by decide)
  have h2 : Int.tmod n 25 < 25 := Int.tmod_lt_of_pos n (by decide)
  generalize Int.tmod n 25 = m at *
  have hw : wrap64 (m + 25) = m + 25 := by unfold wrap64; omega
  rw [hw, Int.tmod_eq_emod_of_nonneg (by omega)]
  exact ⟨((m + 25) % 25).toNat, by omega, by omega⟩
theorem words_end (n : Int) (c : UInt8) : Ev (fun k => oriellaw04_NameWords.l0 k n (c.toNat : Int) kws kws 25 25) true := by
  obtain ⟨j, hj, e⟩ := idx_ok n
  have hs := kw_size j hj
  have hu := kw_up j hj
  have hl : kws.length = 25 := by decide +kernel
  obtain ⟨K1, e1⟩ := kind_ev (kwAt j ++ ⟨#[c]⟩) (by rw [ByteArray.size_append]; have : (⟨#[c]⟩ : ByteArray).size = 1 := rfl; omega)
  obtain ⟨K2, e2⟩ := kind_ev (upOf j) (by omega)
  obtain ⟨K3, e3⟩ := alive4_b
  refine ⟨K1 + K2 + K3 + 1, fun k hk => ?_⟩
  obtain ⟨k, rfl⟩ : ∃ m, k = m + 1 := ⟨k - 1, by omega⟩
  have f1 := e1 k (by omega)
  have f2 := e2 k (by omega)
  have f3 := e3 k (by omega)
  dsimp only at f1 f2 f3 ⊢
  have hx : (kwAt j ++ ⟨#[c]⟩).data.toList = (kwAt j).data.toList ++ [c] := by simp [ByteArray.data_append]
  rw [hx] at f1
  rw [hu.1] at f2
  have hm := kw_more j hj c
  have p1 : (0 : Int) ≤ (j : Int) := by omega
  have p2 : (j : Int) < ((25 : Nat) : Int) := by omega
  have p3 : (0 : Int) < ((kwAt j).size : Int) := by omega
  have p4 : (1 : Int) ≤ ((kwAt j).size : Int) := by omega
  have p5 : (kwAt j).size + (⟨#[c]⟩ : ByteArray).size ≤ 9223372036854775807 := by have : (⟨#[c]⟩ : ByteArray).size = 1 := rfl; omega
  have p6 : (strOfNums [((bt (kwAt j) 0) - 32) % 256]).size + ((kwAt j).extract 1 (kwAt j).size).size ≤ 9223372036854775807 := by omega
  have hk' : rdOf ByteArray.empty kws (j : Int) = kwAt j := rfl
  rw [oriellaw04_NameWords.l0, if_neg (by decide), e, if_pos p1, hl, if_pos p2, hk']
  simp only [Option.bind_some]
  rw [num_one, if_pos p5, f1]
  simp only [Option.bind_some]
  rw [if_pos p3, if_pos p4, if_pos p6, rrest_f]
  rw [show strOfNums [((bt (kwAt j) 0) - 32) % 256] ++ (kwAt j).extract 1 (kwAt j).size = upOf j from rfl, f2]
  simp only [Option.bind_some, if_true, f3]
  unfold kindC at hm
  cases hr : isRest c with
  | true =>
    rw [hr, if_pos rfl, Bool.or_eq_true, beq_iff_eq, beq_iff_eq] at hm
    rcases hm with h | h <;> simp [h]
  | false =>
    rw [hr, if_neg (by simp), beq_iff_eq] at hm
    simp [hm]
theorem words_loop (n : Int) (c : UInt8) : ∀ d i : Nat, 25 - i = d → i ≤ 25 → Ev (fun k => oriellaw04_NameWords.l0 k n (c.toNat : Int) kws kws 25 (i : Int)) true := by
  intro d
  induction d with
  | zero =>
    intro i hd hi
    obtain rfl : i = 25 := by omega
    exact words_end n c
  | succ d ih =>
    intro i hd hi
    have hlt : i < 25 := by omega
    have hl : kws.length = 25 := by decide +kernel
    have hs := kw_size i hlt
    obtain ⟨K1, e1⟩ := kind_ev (kwAt i) (by omega)
    obtain ⟨K2, e2⟩ := may_ev 1 (kwAt i) (by omega)
    obtain ⟨K3, e3⟩ := may_ev 3 (kwAt i) (by omega)
    obtain ⟨K4, e4⟩ := ih (i + 1) (by omega) (by omega)
    refine ⟨K1 + K2 + K3 + K4 + 1, fun k hk => ?_⟩
    obtain ⟨k, rfl⟩ : ∃ m, k = m + 1 := ⟨k - 1, by omega⟩
    have f1 := e1 k (by omega)
    have f2 := e2 k (by omega)
    have f3 := e3 k (by omega)
    have f4 := e4 k (by omega)
    dsimp only at f1 f2 f3 f4 ⊢
    rw [kw_kind i hlt] at f1 f2 f3
    have hk' : rdOf ByteArray.empty kws (i : Int) = kwAt i := rfl
    rw [oriellaw04_NameWords.l0, if_pos (by omega), if_pos (by omega), hl, if_pos (by omega), hk', f1]
    simp only [Option.bind_some, if_true]
    rw [f2]
    simp only [Option.bind_some]
    rw [if_neg (by decide), f3]
    simp only [Option.bind_some]
    rw [if_neg (by decide), wrap_nat i (by omega)]
    by_cases h0 : (i : Int) > 0
    · obtain ⟨m, rfl⟩ : ∃ m, i = m + 1 := ⟨i - 1, by omega⟩
      have hw : wrap64 (((m + 1 : Nat) : Int) - 1) = (m : Int) := by unfold wrap64; omega
      rw [if_pos h0, hw, if_pos (by omega), if_pos (by omega), show rdOf ByteArray.empty kws (m : Int) = kwAt m from rfl, ByteArray.toList_eq, ByteArray.toList_eq, kw_rise m hlt, if_pos rfl]
      exact f4
    · rw [if_neg h0]
      exact f4
theorem NameWords : oriellaw04_NameWords.Pure := by
  intro n c _ hc
  refine Ev.rounds ?_
  obtain ⟨b, rfl⟩ : ∃ b : UInt8, c = (b.toNat : Int) := by
    have h : 0 ≤ c ∧ c < 256 := by
      simp [Lit.wf, IntKind.min, IntKind.max, IntKind.signed, IntKind.bits] at hc
      omega
    refine ⟨UInt8.ofNat c.toNat, ?_⟩
    have e : (UInt8.ofNat c.toNat).toNat = c.toNat % 256 := UInt8.toNat_ofNat'
    rw [e]
    omega
  unfold oriellaw04_NameWords.f name_Keywords.f
  simp only [Option.bind_some]
  have hl : kws.length = 25 := by decide +kernel
  have h0 := words_loop n b 25 0 (by omega) (by omega)
  show Ev (fun k => if (kws.length : Int) = 25 then oriellaw04_NameWords.l0 k n (b.toNat : Int) kws kws (kws.length : Int) 0 else some false) true
  rw [hl]
  exact h0
end Go.Proofs.YtcccambfcedakaaDoor.Pure
