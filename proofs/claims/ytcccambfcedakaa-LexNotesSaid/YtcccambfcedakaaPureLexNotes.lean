/- The lexer's law LexNotes: for every number and every text: a note within notes (1 to 300 of them, each with some letters from a to e, at most 20) is one token; without its last end it has none, and all behind it is bad. No condition. -/
import Derived.Test.YtcccambfcedakaaLxAlive
import Derived.Test.YtcccambfcedakaaLxFirst
import Derived.Test.YtcccambfcedakaaQAx7
namespace Go.Proofs.Ytcccambfcedakaa.Pure
open Go.RowKit Go.Proofs.Ytcccambfcedakaa.QA Go.Proofs.YtcccambfcedakaaW.PrintWords Go.Proofs.YtcccambfcedakaaW.PrintLast Oriel.Lx Go.Proofs.Ytcccambfcedakaa.Lx
def letters (l : T) : Prop := ∀ c ∈ l, c ≠ 40 ∧ c ≠ 42
def nest (i : T) : Nat → T
  | 0 => []
  | j + 1 => 40 :: 42 :: (i ++ (nest i j ++ (i ++ [42, 41])))
theorem nest_len (i : T) (j : Nat) : (nest i j).length = j * (4 + 2 * i.length) := by
  induction j with
  | zero => simp [nest]
  | succ j ih => simp [nest, ih, Nat.succ_mul]; omega
theorem note_letters (i : T) (hi : letters i) (r : T) (d : Nat) (hd : 0 < d) : noteN (i ++ r) d = (noteN r d).map (· + i.length) := by
  induction i with
  | nil => rw [List.nil_append]; cases noteN r d <;> rfl
  | cons c i ih =>
    obtain ⟨h1, h2⟩ := hi c (by simp)
    rw [List.cons_append, noteN, if_pos hd, ih (fun x hx => hi x (by simp [hx]))]
    · cases noteN r d <;> simp; omega
    · intro r' h _; exact h1 h
    · intro r' h _; exact h2 h
theorem note_nest (i : T) (hi : letters i) (j : Nat) : ∀ (r : T) (d : Nat), 0 < d → noteN (nest i j ++ r) d = (noteN r d).map (· + (nest i j).length) := by
  induction j with
  | zero => intro r d _; simp [nest]
  | succ j ih =>
    intro r d hd
    have e : nest i (j + 1) ++ r = 40 :: 42 :: (i ++ (nest i j ++ (i ++ (42 :: 41 :: r)))) := by simp [nest]
    rw [e, noteN, note_letters i hi _ _ (by omega), ih _ _ (by omega), note_letters i hi _ _ (by omega), noteN, if_pos (by omega), Nat.add_sub_cancel]
    cases noteN r d <;> simp [nest]; omega
theorem note_whole (i : T) (hi : letters i) (j : Nat) (r : T) : noteN (nest i (j + 1) ++ r) 0 = some (nest i (j + 1)).length := by
  have e : nest i (j + 1) ++ r = 40 :: 42 :: (i ++ (nest i j ++ (i ++ (42 :: 41 :: r)))) := by simp [nest]
  rw [e, noteN, note_letters i hi _ _ (by omega), note_nest i hi _ _ _ (by omega), note_letters i hi _ _ (by omega), noteN, if_neg (by omega)]
  simp [nest]; omega
theorem note_open (i : T) (hi : letters i) (j : Nat) : noteN (40 :: 42 :: (i ++ (nest i j ++ (i ++ [120])))) 0 = none := by
  rw [noteN, note_letters i hi _ _ (by omega), note_nest i hi _ _ _ (by omega), note_letters i hi _ _ (by omega)]
  rfl
theorem scan_one (l : T) (h : l ≠ []) : scan l = tk l :: scan (l.drop (tk l).2) := by
  rcases l with _ | ⟨b, r⟩
  · exact absurd rfl h
  · exact scan_cons b r
theorem scan_whole (i : T) (hi : letters i) (j : Nat) : scan (nest i (j + 1) ++ [120]) = [(2, (nest i (j + 1)).length), (6, 1)] := by
  have ht : tk (nest i (j + 1) ++ [120]) = (2, (nest i (j + 1)).length) := by
    have hn := note_whole i hi j [120]
    have e : nest i (j + 1) ++ [120] = 40 :: 42 :: (i ++ (nest i j ++ (i ++ [42, 41])) ++ [120]) := by simp [nest]
    rw [e] at hn ⊢
    simp only [tk]
    rw [if_neg (by decide), if_pos (by simp), hn]
  rw [scan_one _ (by simp [nest]), ht]
  dsimp only
  rw [List.drop_left]
  rfl
theorem scan_open (i : T) (hi : letters i) (j : Nat) : scan (40 :: 42 :: (i ++ (nest i j ++ (i ++ [120])))) = [(3, (40 :: 42 :: (i ++ (nest i j ++ (i ++ [120])))).length)] := by
  have ht : tk (40 :: 42 :: (i ++ (nest i j ++ (i ++ [120])))) = (3, (40 :: 42 :: (i ++ (nest i j ++ (i ++ [120])))).length) := by
    simp only [tk]
    rw [if_neg (by decide), if_pos (by simp), note_open i hi j]
  rw [scan_one _ (by simp), ht]
  dsimp only
  rw [List.drop_length]
  rfl
theorem scan_y (r : T) (c : UInt8) (h1 : isBlank c = false) : scan (121 :: 32 :: c :: r) = (6, 1) :: (1, 1) :: scan (c :: r) := by
  have t1 : tk (121 :: 32 :: c :: r) = (6, 1) := by
    simp only [tk]
    rw [if_neg (by decide), if_neg (by simp), if_neg (by decide), if_neg (by decide), if_neg (by decide), if_pos (by decide)]
    have : runLen isRest (121 :: 32 :: c :: r) = 1 := by
      unfold runLen
      rw [List.takeWhile_cons, if_pos (by decide), List.takeWhile_cons, if_neg (by decide)]
      rfl
    rw [this]
    rfl
  have t2 : tk (32 :: c :: r) = (1, 1) := by
    simp only [tk]
    rw [if_pos (by decide)]
    have : runLen isBlank (32 :: c :: r) = 1 := by
      unfold runLen
      rw [List.takeWhile_cons, if_pos (by decide), List.takeWhile_cons, if_neg (by simp [h1])]
      rfl
    rw [this]
  rw [scan_one _ (by simp), t1]
  show _ :: scan (32 :: c :: r) = _
  rw [scan_one (32 :: c :: r) (by simp), t2]
  rfl
theorem data_app (a b : ByteArray) : (a ++ b).data.toList = a.data.toList ++ b.data.toList := by
  rw [ByteArray.data_append, Array.toList_append]
theorem alive_bind : Ev (fun k => (oriellaw05_alive.f k).bind fun t => some t) true :=
  Ev.bind (f := fun _ (t : Bool) => some t) (Ev.of oriellaw05_alive.mono alive_some) (Ev.now _)
theorem notes_end (s a1 : ByteArray) (hi : letters a1.data.toList) (ha : a1.size ≤ 20) (n : Nat) (hn : n < 300) (hx : s.data.toList = nest a1.data.toList (n + 1)) (x7 : Int) (h7 : ¬ x7 < ((n + 1 : Nat) : Int)) :
    Ev (fun k => oriellaw05_LexNotes.l1 k ((n + 1 : Nat) : Int) a1 s x7) true := by
  have hla := len a1
  have hls := len s
  have hsz : s.size = (n + 1) * (4 + 2 * a1.size) := by rw [← hls, hx, nest_len, hla]
  have hb1 : 4 + 2 * a1.size ≤ s.size := by rw [hsz]; exact Nat.le_mul_of_pos_left _ (by omega)
  have hb2 : s.size ≤ 300 * 44 := by rw [hsz]; exact Nat.mul_le_mul (by omega) (by omega)
  have w2 : wrap64 ((s.size : Int) - 2) = ((s.size - 2 : Nat) : Int) := by unfold wrap64; omega
  have w1 : wrap64 ((s.size : Int) - 1) = ((s.size - 1 : Nat) : Int) := by unfold wrap64; omega
  have hx2 : (s.extract 0 (s.size - 2)).data.toList = 40 :: 42 :: (a1.data.toList ++ (nest a1.data.toList n ++ a1.data.toList)) := by
    rw [Lib.extract_data, List.drop_zero, Nat.sub_zero, hx]
    have e : nest a1.data.toList (n + 1) = (40 :: 42 :: (a1.data.toList ++ (nest a1.data.toList n ++ a1.data.toList))) ++ [42, 41] := by simp [nest]
    have hl2 : s.size - 2 = (40 :: 42 :: (a1.data.toList ++ (nest a1.data.toList n ++ a1.data.toList))).length := by
      have := congrArg List.length e
      rw [← hx, hls, List.length_append] at this
      simp only [List.length_cons, List.length_nil] at this ⊢
      omega
    rw [e, hl2, List.take_left]
  have hsz2 : (s.extract 0 (s.size - 2)).size = s.size - 2 := by rw [ByteArray.size_extract]; omega
  refine Ev.step (f := fun k => (lex_Scan.f k (s ++ (⟨#[120]⟩ : ByteArray))).bind fun t207 => (lex_Scan.f k ((s.extract 0 (s.size - 2)) ++ (⟨#[120]⟩ : ByteArray))).bind fun t210 =>
    (lex_First.f k (((⟨#[121, 32]⟩ : ByteArray) ++ (s.extract 0 (s.size - 2))) ++ (⟨#[120]⟩ : ByteArray))).bind fun bt213 => (if (t207.length : Int) = 3 then (if 0 < (t207.length : Int) then (if ((rd_T26 t207 0).f0) = 2 then (if ((rd_T26 t207 0).f2) = (s.size : Int) then (if 1 < (t207.length : Int) then (if ((rd_T26 t207 1).f0) = 6 then (if (t210.length : Int) = 2 then (if 0 < (t210.length : Int) then (if ((rd_T26 t210 0).f0) = 3 then (if ((rd_T26 t210 0).f2) = ((s.size - 1 : Nat) : Int) then (if bt213.1 = 2 then (if bt213.2 = 8 then ((oriellaw05_alive.f k).bind fun t220 => (some t220)) else (some false)) else (some false)) else (some false)) else (some false)) else (none)) else (some false)) else (some false)) else (none)) else (some false)) else (some false)) else (none)) else (some false))) (fun k => ?_) ?_
  · rw [oriellaw05_LexNotes.l1, if_neg h7, if_pos (by omega), w2, w1, Int.toNat_natCast]
    have q1 : (s.extract 0 (s.size - 2)).size + 1 ≤ 9223372036854775807 := by rw [hsz2]; omega
    have q2 : 2 + (s.extract 0 (s.size - 2)).size ≤ 9223372036854775807 := by rw [hsz2]; omega
    have q3 : ((⟨#[121, 32]⟩ : ByteArray) ++ s.extract 0 (s.size - 2)).size + 1 ≤ 9223372036854775807 := by rw [ByteArray.size_append, hsz2]; show 2 + (s.size - 2) + 1 ≤ _; omega
    simp only [if_pos (show (0 : Int) ≤ ((s.size - 2 : Nat) : Int) by omega), if_pos (show ((s.size - 2 : Nat) : Int) ≤ (s.size : Int) by omega), if_pos q1, if_pos q2, if_pos q3]
  have s1 := scan_ev (s ++ (⟨#[120]⟩ : ByteArray)) (by rw [ByteArray.size_append]; show s.size + 1 ≤ _; omega)
  rw [data_app, hx, show (⟨#[120]⟩ : ByteArray).data.toList = [120] from rfl, scan_whole _ hi] at s1
  have s2 := scan_ev ((s.extract 0 (s.size - 2)) ++ (⟨#[120]⟩ : ByteArray)) (by rw [ByteArray.size_append, hsz2]; show s.size - 2 + 1 ≤ _; omega)
  have eo : (40 :: 42 :: (a1.data.toList ++ (nest a1.data.toList n ++ a1.data.toList))) ++ [120] = 40 :: 42 :: (a1.data.toList ++ (nest a1.data.toList n ++ (a1.data.toList ++ [120]))) := by simp
  have elen : (40 :: 42 :: (a1.data.toList ++ (nest a1.data.toList n ++ (a1.data.toList ++ [120])))).length = s.size - 1 := by
    rw [← eo, ← hx2, List.length_append, len, hsz2]
    simp; omega
  rw [data_app, hx2, show (⟨#[120]⟩ : ByteArray).data.toList = [120] from rfl, eo, scan_open _ hi, elen] at s2
  have hnl : (nest a1.data.toList (n + 1)).length = s.size := by rw [← hx, hls]
  rw [hnl] at s1
  have hz : ((⟨#[121, 32]⟩ : ByteArray) ++ (s.extract 0 (s.size - 2)) ++ (⟨#[120]⟩ : ByteArray)).size = s.size + 1 := by
    rw [ByteArray.size_append, ByteArray.size_append, hsz2]; show 2 + (s.size - 2) + 1 = _; omega
  have hy : ((⟨#[121, 32]⟩ : ByteArray) ++ (s.extract 0 (s.size - 2)) ++ (⟨#[120]⟩ : ByteArray)).data.toList = 121 :: 32 :: 40 :: 42 :: (a1.data.toList ++ (nest a1.data.toList n ++ (a1.data.toList ++ [120]))) := by
    rw [data_app, data_app, hx2]
    show ([121, 32] ++ _) ++ [120] = _
    simp
  have s3 := first_ev ((⟨#[121, 32]⟩ : ByteArray) ++ (s.extract 0 (s.size - 2)) ++ (⟨#[120]⟩ : ByteArray)) (by rw [hz]; omega)
  generalize (⟨#[121, 32]⟩ : ByteArray) ++ (s.extract 0 (s.size - 2)) ++ (⟨#[120]⟩ : ByteArray) = y at *
  rw [hy, scan_y _ _ (by decide), scan_open _ hi, elen] at s3
  have hb : bt y 2 = 40 := by
    obtain ⟨c, h1, h2⟩ := bt_nat y 2 (by omega)
    rw [hy] at h1
    simp at h1
    subst h1
    exact h2
  have hF : firstE y (places 0 [(6, 1), (1, 1), (3, s.size - 1)]) = (2, 8) := by
    simp only [places, firstE, badE]
    rw [if_pos (by simp), if_pos (by simp), if_neg, if_pos]
    · simp only [Prod.mk.injEq]
      refine ⟨rfl, ?_⟩
      rw [if_pos]
      left
      exact hb
    · refine ⟨by simp, by simp, ?_, ?_, ?_⟩ <;> simp <;> omega
    · rw [if_pos]
      · rw [if_pos (.inl hb)]; simp
      · refine ⟨by simp, by simp, ?_, ?_, ?_⟩ <;> simp <;> omega
  rw [hF] at s3
  refine Ev.bind (f := fun k t207 => (lex_Scan.f k ((s.extract 0 (s.size - 2)) ++ (⟨#[120]⟩ : ByteArray))).bind fun t210 =>
    (lex_First.f k y).bind fun bt213 => (if (List.length t207 : Int) = 3 then (if 0 < (t207.length : Int) then (if ((rd_T26 t207 0).f0) = 2 then (if ((rd_T26 t207 0).f2) = (s.size : Int) then (if 1 < (t207.length : Int) then (if ((rd_T26 t207 1).f0) = 6 then (if (t210.length : Int) = 2 then (if 0 < (t210.length : Int) then (if ((rd_T26 t210 0).f0) = 3 then (if ((rd_T26 t210 0).f2) = ((s.size - 1 : Nat) : Int) then (if bt213.1 = 2 then (if bt213.2 = 8 then ((oriellaw05_alive.f k).bind fun t220 => (some t220)) else (some false)) else (some false)) else (some false)) else (some false)) else (none)) else (some false)) else (some false)) else (none)) else (some false)) else (some false)) else (none)) else (some false))) s1 ?_
  refine Ev.bind s2 ?_
  refine Ev.bind s3 ?_
  refine Ev.congr (fun k => ?_) alive_bind
  simp [places, rd_T26]
theorem notes_l1 (a1 : ByteArray) (hi : letters a1.data.toList) (ha : a1.size ≤ 20) (n : Nat) (hn : n < 300) : ∀ (d j : Nat) (s : ByteArray), n + 1 - j = d → j ≤ n + 1 → s.data.toList = nest a1.data.toList j →
    Ev (fun k => oriellaw05_LexNotes.l1 k ((n + 1 : Nat) : Int) a1 s (j : Int)) true := by
  intro d
  induction d with
  | zero =>
    intro j s hd hj hs
    obtain rfl : j = n + 1 := by omega
    exact notes_end s a1 hi ha n hn hs _ (by omega)
  | succ d ih =>
    intro j s hd hj hs
    have hsz : s.size = j * (4 + 2 * a1.size) := by rw [← len, hs, nest_len, len]
    have hb2 : s.size ≤ 300 * 44 := by rw [hsz]; exact Nat.mul_le_mul (by omega) (by omega)
    refine Ev.step (f := fun k => oriellaw05_LexNotes.l1 k ((n + 1 : Nat) : Int) a1 (((((⟨#[40, 42]⟩ : ByteArray) ++ a1) ++ s) ++ a1) ++ (⟨#[42, 41]⟩ : ByteArray)) ((j + 1 : Nat) : Int)) (fun k => ?_) (ih (j + 1) _ (by omega) (by omega) ?_)
    · rw [oriellaw05_LexNotes.l1, if_pos (by omega), if_pos (by omega), if_pos (by rw [ByteArray.size_append]; show 2 + a1.size + s.size ≤ _; omega), if_pos (by rw [ByteArray.size_append, ByteArray.size_append]; show 2 + a1.size + s.size + a1.size ≤ _; omega), if_pos (by rw [ByteArray.size_append, ByteArray.size_append, ByteArray.size_append]; show 2 + a1.size + s.size + a1.size + 2 ≤ _; omega), wrap_nat j (by omega)]
    · rw [data_app, data_app, data_app, data_app, hs, show (⟨#[40, 42]⟩ : ByteArray).data.toList = [40, 42] from rfl, show (⟨#[42, 41]⟩ : ByteArray).data.toList = [42, 41] from rfl]
      simp [nest]
theorem notes_l0 (a1 : ByteArray) (ha : a1.size ≤ 20) (n : Nat) (hn : n < 300) : ∀ (d i : Nat), a1.size - i = d → i ≤ a1.size → (∀ m (hm : m < a1.data.toList.length), m < i → a1.data.toList[m] ≠ 40 ∧ a1.data.toList[m] ≠ 42) →
    Ev (fun k => oriellaw05_LexNotes.l0 k ((n + 1 : Nat) : Int) a1 (a1.size : Int) (i : Int)) true := by
  intro d
  induction d with
  | zero =>
    intro i hd hi hl
    refine Ev.step (f := fun k => oriellaw05_LexNotes.l1 k ((n + 1 : Nat) : Int) a1 (⟨#[]⟩ : ByteArray) ((0 : Nat) : Int)) (fun k => by rw [oriellaw05_LexNotes.l0, if_neg (by omega)]; rfl) (notes_l1 a1 ?_ ha n hn _ 0 _ rfl (by omega) rfl)
    intro c hc
    obtain ⟨m, hm, rfl⟩ := List.getElem_of_mem hc
    exact hl m hm (by rw [len] at hm; omega)
  | succ d ih =>
    intro i hd hi hl
    obtain ⟨c, h1, h2⟩ := bt_nat a1 i (by omega)
    by_cases q1 : (c.toNat : Int) < 97
    · exact Ev.step (f := fun k => (oriellaw05_alive.f k).bind fun t => some t) (fun k => by rw [oriellaw05_LexNotes.l0, if_pos (by omega), if_pos (by omega), if_pos (by omega), h2, if_pos q1]) alive_bind
    · by_cases q2 : (c.toNat : Int) > 101
      · exact Ev.step (f := fun k => (oriellaw05_alive.f k).bind fun t => some t) (fun k => by rw [oriellaw05_LexNotes.l0, if_pos (by omega), if_pos (by omega), if_pos (by omega), h2, if_neg q1, if_pos q2]) alive_bind
      · refine Ev.step (f := fun k => oriellaw05_LexNotes.l0 k ((n + 1 : Nat) : Int) a1 (a1.size : Int) ((i + 1 : Nat) : Int)) (fun k => by rw [oriellaw05_LexNotes.l0, if_pos (by omega), if_pos (by omega), if_pos (by omega), h2, if_neg q1, if_neg q2, wrap_nat i (by omega)]) (ih (i + 1) (by omega) (by omega) ?_)
        intro m hm hmi
        by_cases e : m = i
        · subst e
          rw [List.getElem?_eq_getElem hm] at h1
          injection h1 with h1
          rw [h1]
          exact ⟨by rintro rfl; simp at q1, by rintro rfl; simp at q1⟩
        · exact hl m hm (by omega)
theorem LexNotes : oriellaw05_LexNotes.Pure := by
  intro a0 a1 _ _
  refine Ev.rounds ?_
  unfold oriellaw05_LexNotes.f
  by_cases h : (a1.size : Int) > 20
  · simp only [if_pos h]
    exact alive_bind
  · simp only [if_neg h]
    have tm : ∀ a : Int, 0 ≤ a → Int.tmod a 300 = a % 300 := fun a ha => Int.tmod_eq_emod_of_nonneg ha
    have h1 : -300 < Int.tmod a0 300 ∧ Int.tmod a0 300 < 300 := by
      by_cases h0 : 0 ≤ a0
      · rw [tm a0 h0]; omega
      · have e := tm (-a0) (by omega)
        rw [Int.neg_tmod] at e
        omega
    obtain ⟨n, hn, e⟩ : ∃ n : Nat, n < 300 ∧ wrap64 (1 + Int.tmod (wrap64 (Int.tmod a0 300 + 300)) 300) = ((n + 1 : Nat) : Int) := by
      have e1 : wrap64 (Int.tmod a0 300 + 300) = Int.tmod a0 300 + 300 := by unfold wrap64; omega
      rw [e1, tm _ (by omega)]
      have h2 : 0 ≤ (Int.tmod a0 300 + 300) % 300 ∧ (Int.tmod a0 300 + 300) % 300 < 300 := by omega
      refine ⟨((Int.tmod a0 300 + 300) % 300).toNat, by omega, ?_⟩
      unfold wrap64
      omega
    simp only [e]
    exact notes_l0 a1 (by omega) n hn _ 0 rfl (by omega) (fun m hm h => absurd h (by omega))
end Go.Proofs.Ytcccambfcedakaa.Pure
