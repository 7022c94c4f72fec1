/- How texts are quoted: the printed functions of the document's answer, and of the program's one, on lists of bytes. -/
import Derived.Test.YtnlbmnlmfbihlaaDoorQCx2
import Derived.Test.YtnlbmnlmfbihlaaDoorQCx3
namespace Go.Proofs.YtnlbmnlmfbihlaaDoor.Rp
open Go.RowKit Go.Proofs.YtnlbmnlmfbihlaaDoor.QC Go.Proofs.YtnlbmnlmfbihlaaDoorW.PrintWords Go.Proofs.YtnlbmnlmfbihlaaDoorW.PrintLast
theorem alive_some : oriellaw25_alive.f 60 = some true := by decide +kernel
theorem alive_ev : Ev (fun k => (oriellaw25_alive.f k).bind fun t => some t) true := Ev.bind (f := fun _ t => some t) (Ev.of oriellaw25_alive.mono alive_some) (Ev.now _)
theorem all_bytes {P : UInt8 → Prop} (h : ∀ n : Fin 256, P (UInt8.ofNat n.val)) (c : UInt8) : P c := by
  have := h ⟨c.toNat, c.toNat_lt⟩
  simpa using this
theorem len (s : ByteArray) : s.data.toList.length = s.size := data_length s
theorem mk_size (l : List UInt8) : (⟨l.toArray⟩ : ByteArray).size = l.length := rfl
theorem bt_nat (s : ByteArray) (n : Nat) (h : n < s.size) : ∃ c, s.data.toList[n]? = some c ∧ bt s (n : Int) = (c.toNat : Int) := by
  refine ⟨s[n], ?_, ?_⟩
  · rw [List.getElem?_eq_getElem (by rw [data_length]; exact h)]
    rfl
  · simp [bt, h]
theorem drop_cons {s : ByteArray} {n : Nat} {c : UInt8} (h : s.data.toList[n]? = some c) : s.data.toList.drop n = c :: s.data.toList.drop (n + 1) := by
  obtain ⟨hn, rfl⟩ := List.getElem?_eq_some_iff.1 h
  exact List.drop_eq_getElem_cons hn
theorem wrap_nat (n : Nat) (h : n ≤ 9223372036854775806) : wrap64 ((n : Int) + 1) = ((n + 1 : Nat) : Int) := by unfold wrap64; omega
theorem app_mk (x : ByteArray) (l : List UInt8) : (x ++ (⟨l.toArray⟩ : ByteArray)).data.toList = x.data.toList ++ l := by simp
theorem byteOf_f (c : UInt8) : orielref25_byteOf.f (c.toNat : Int) = some ⟨#[c]⟩ := by
  refine all_bytes (P := fun c => orielref25_byteOf.f (c.toNat : Int) = some ⟨#[c]⟩) ?_ c
  decide +kernel
theorem digit_f (c : UInt8) : orielref25_digit.f (wrap64 (Int.tdiv (c.toNat : Int) 16)) = some ⟨#[hexd.getD (c.toNat / 16) 0]⟩ ∧ orielref25_digit.f (Int.tmod (c.toNat : Int) 16) = some ⟨#[hexd.getD (c.toNat % 16) 0]⟩ := by
  refine all_bytes (P := fun c => orielref25_digit.f (wrap64 (Int.tdiv (c.toNat : Int) 16)) = some ⟨#[hexd.getD (c.toNat / 16) 0]⟩ ∧ orielref25_digit.f (Int.tmod (c.toNat : Int) 16) = some ⟨#[hexd.getD (c.toNat % 16) 0]⟩) ?_ c
  decide +kernel
theorem byte34 : orielref25_byteOf.f 34 = some ⟨#[34]⟩ := byteOf_f 34
theorem byte92 : orielref25_byteOf.f 92 = some ⟨#[92]⟩ := byteOf_f 92
theorem bytes_ext {a b : ByteArray} (h : a.data.toList = b.data.toList) : a = b := by
  obtain ⟨⟨a⟩⟩ := a
  obtain ⟨⟨b⟩⟩ := b
  simp at h
  rw [h]
theorem one_size (c : UInt8) : (⟨#[c]⟩ : ByteArray).size = 1 := rfl
theorem ref_l (s : ByteArray) (hs : s.size ≤ 1000000) : ∀ (d n : Nat) (x : ByteArray), s.size - n = d → n ≤ s.size → x.size ≤ 1 + 4 * n →
    Ev (fun k => orielref25_Quote.l0 k s x (n : Int)) (x ++ ⟨((s.data.toList.drop n).flatMap qb ++ [34]).toArray⟩) := by
  intro d
  induction d with
  | zero =>
    intro n x hd hn hx
    have e : n = s.size := by omega
    subst e
    rw [List.drop_of_length_le (by rw [len]; omega)]
    refine Ev.step (f := fun _ => some (x ++ ⟨#[34]⟩)) (fun k => ?_) (Ev.now _)
    rw [orielref25_Quote.l0, if_neg (by omega), byte34]
    simp only [Option.bind_some]
    rw [if_pos (by rw [one_size]; omega)]
  | succ d ih =>
    intro n x hd hn hx
    obtain ⟨c, h1, h2⟩ := bt_nat s n (by omega)
    have hq := qb_len c
    have hI := ih (n + 1) (x ++ ⟨(qb c).toArray⟩) (by omega) (by omega) (by rw [ByteArray.size_append, mk_size (qb c)]; omega)
    have e : x ++ (⟨(qb c).toArray⟩ : ByteArray) ++ ⟨((s.data.toList.drop (n + 1)).flatMap qb ++ [34]).toArray⟩ = x ++ ⟨((s.data.toList.drop n).flatMap qb ++ [34]).toArray⟩ := by
      refine bytes_ext ?_
      rw [drop_cons h1]
      simp
    rw [e] at hI
    have hw : wrap64 (c.toNat : Int) = (c.toNat : Int) := by have := c.toNat_lt; unfold wrap64; omega
    have hn1 := wrap_nat n (by omega)
    have key : ∀ y, y = x ++ (⟨(qb c).toArray⟩ : ByteArray) → Ev (fun k => orielref25_Quote.l0 k s y ((n + 1 : Nat) : Int)) (x ++ ⟨((s.data.toList.drop n).flatMap qb ++ [34]).toArray⟩) := fun y hy => by rw [hy]; exact hI
    have hc := c.toNat_lt
    have j1 : (c.toNat = 34 ∨ c.toNat = 92) → Ev (fun k => orielref25_Quote.j1 k s x (n : Int) (c.toNat : Int) true) (x ++ ⟨((s.data.toList.drop n).flatMap qb ++ [34]).toArray⟩) := fun hc0 => by
      refine Ev.step (f := fun k => orielref25_Quote.l0 k s (x ++ (⟨#[92]⟩ : ByteArray) ++ (⟨#[c]⟩ : ByteArray)) ((n + 1 : Nat) : Int)) (fun k => ?_) (key _ ?_)
      · rw [orielref25_Quote.j1, if_pos rfl, byte92, byteOf_f, hn1]
        simp only [Option.bind_some]
        rw [if_pos (by rw [one_size]; omega), if_pos (by rw [ByteArray.size_append, one_size, one_size]; omega)]
      · refine bytes_ext ?_
        unfold qb
        rw [if_pos hc0]
        simp
    by_cases c34 : c.toNat = 34
    · refine Ev.step (f := fun k => orielref25_Quote.j1 k s x (n : Int) (c.toNat : Int) true) (fun k => ?_) (j1 (.inl c34))
      rw [orielref25_Quote.l0, if_pos (by omega), if_pos (by omega), h2, hw, if_pos (by omega)]
    · by_cases c92 : c.toNat = 92
      · refine Ev.step (f := fun k => orielref25_Quote.j1 k s x (n : Int) (c.toNat : Int) true) (fun k => ?_) (j1 (.inr c92))
        rw [orielref25_Quote.l0, if_pos (by omega), if_pos (by omega), h2, hw, if_neg (by omega), show ((c.toNat : Int) == 92) = true from beq_iff_eq.2 (by omega)]
      · refine Ev.step (f := fun k => orielref25_Quote.j1 k s x (n : Int) (c.toNat : Int) false) (fun k => ?_) ?_
        · rw [orielref25_Quote.l0, if_pos (by omega), if_pos (by omega), h2, hw, if_neg (by omega), show ((c.toNat : Int) == 92) = false from beq_eq_false_iff_ne.2 (by omega)]
        · by_cases c10 : c.toNat = 10
          · refine Ev.step (f := fun k => orielref25_Quote.l0 k s (x ++ (⟨#[92]⟩ : ByteArray) ++ (⟨#[110]⟩ : ByteArray)) ((n + 1 : Nat) : Int)) (fun k => ?_) (key _ ?_)
            · rw [orielref25_Quote.j1, if_neg (by simp), if_pos (by omega), byte92, hn1]
              simp only [Option.bind_some]
              rw [if_pos (by rw [one_size]; omega), if_pos (by rw [ByteArray.size_append, one_size]; omega)]
            · refine bytes_ext ?_
              unfold qb
              rw [if_neg (by omega), if_pos c10]
              simp
          · have j2 : (c.toNat < 32 ∨ 126 < c.toNat) → Ev (fun k => orielref25_Quote.j2 k s x (n : Int) (c.toNat : Int) true) (x ++ ⟨((s.data.toList.drop n).flatMap qb ++ [34]).toArray⟩) := fun hx2 => by
              refine Ev.step (f := fun k => orielref25_Quote.l0 k s (x ++ (⟨#[92]⟩ : ByteArray) ++ (⟨#[120]⟩ : ByteArray) ++ (⟨#[hexd.getD (c.toNat / 16) 0]⟩ : ByteArray) ++ (⟨#[hexd.getD (c.toNat % 16) 0]⟩ : ByteArray)) ((n + 1 : Nat) : Int)) (fun k => ?_) (key _ ?_)
              · rw [orielref25_Quote.j2, if_pos rfl, byte92, (digit_f c).1, (digit_f c).2, hn1]
                simp only [Option.bind_some]
                rw [if_pos (by rw [one_size]; omega), if_pos (by rw [ByteArray.size_append, one_size]; omega), if_pos (by simp only [ByteArray.size_append, one_size]; omega), if_pos (by simp only [ByteArray.size_append, one_size]; omega)]
              · refine bytes_ext ?_
                unfold qb
                rw [if_neg (by omega), if_neg c10, if_pos hx2]
                simp
            by_cases c32 : c.toNat < 32
            · refine Ev.step (f := fun k => orielref25_Quote.j2 k s x (n : Int) (c.toNat : Int) true) (fun k => ?_) (j2 (.inl c32))
              rw [orielref25_Quote.j1, if_neg (by simp), if_neg (by omega), if_pos (by omega)]
            · by_cases c126 : 126 < c.toNat
              · refine Ev.step (f := fun k => orielref25_Quote.j2 k s x (n : Int) (c.toNat : Int) true) (fun k => ?_) (j2 (.inr c126))
                rw [orielref25_Quote.j1, if_neg (by simp), if_neg (by omega), if_neg (by omega), decide_eq_true (by omega)]
              · refine Ev.step (f := fun k => orielref25_Quote.j2 k s x (n : Int) (c.toNat : Int) false) (fun k => ?_) ?_
                · rw [orielref25_Quote.j1, if_neg (by simp), if_neg (by omega), if_neg (by omega), decide_eq_false (by omega)]
                · refine Ev.step (f := fun k => orielref25_Quote.l0 k s (x ++ (⟨#[c]⟩ : ByteArray)) ((n + 1 : Nat) : Int)) (fun k => ?_) (key _ ?_)
                  · rw [orielref25_Quote.j2, if_neg (by simp), byteOf_f, hn1]
                    simp only [Option.bind_some]
                    rw [if_pos (by rw [one_size]; omega)]
                  · refine bytes_ext ?_
                    unfold qb
                    rw [if_neg (by omega), if_neg c10, if_neg (by omega)]
/-- The document's quoted text. -/
theorem ref_ev (s : ByteArray) (hs : s.size ≤ 1000000) : Ev (fun k => orielref25_Quote.f k s) ⟨(quoteL s.data.toList).toArray⟩ := by
  unfold orielref25_Quote.f
  rw [byte34]
  simp only [Option.bind_some]
  have h := ref_l s hs (s.size - 0) 0 ⟨#[34]⟩ rfl (Nat.zero_le _) (by rw [one_size]; omega)
  have e : (⟨#[34]⟩ : ByteArray) ++ ⟨((s.data.toList.drop 0).flatMap qb ++ [34]).toArray⟩ = ⟨(quoteL s.data.toList).toArray⟩ := by
    refine bytes_ext ?_
    simp [quoteL]
  rw [e] at h
  exact h
end Go.Proofs.YtnlbmnlmfbihlaaDoor.Rp
