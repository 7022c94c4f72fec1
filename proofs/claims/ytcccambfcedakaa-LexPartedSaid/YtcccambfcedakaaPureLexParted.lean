/- The lexer's law LexParted: with a line end between them two texts that have no bad tokens have the tokens of both. No condition. -/
import Derived.Test.YtcccambfcedakaaLxAlive
import Derived.Test.YtcccambfcedakaaLxFirst
import Derived.Test.YtcccambfcedakaaLxPart
import Derived.Test.YtcccambfcedakaaQAx9
namespace Go.Proofs.Ytcccambfcedakaa.Pure
open Go.RowKit Go.Proofs.Ytcccambfcedakaa.QA Go.Proofs.YtcccambfcedakaaW.PrintWords Go.Proofs.YtcccambfcedakaaW.PrintLast Oriel.Lx Go.Proofs.Ytcccambfcedakaa.Lx
def nb (x : S26) : Bool := !(([1, 2] : List Int).contains x.f0)
def wl (s : T) : List S26 := (places 0 (scan s)).filter nb
theorem words_ev (s : ByteArray) (hs : s.size ≤ 1000000) : Ev (fun k => lex_Words.f k s) (wl s.data.toList) := by
  unfold lex_Words.f lex_without.f
  refine Ev.bind (f := fun k t => some t) ?_ (Ev.now _)
  refine Ev.bind (f := fun k (ts : List S26) => some (ts.filter fun x => !(([1, 2] : List Int).contains x.f0))) (scan_ev s hs) ?_
  exact Ev.now _
def toS (x : Int × Nat × Nat) : S26 := ⟨x.1, (x.2.1 : Int), (x.2.2 : Int)⟩
def total (l : List (Int × Nat)) : Nat := (l.map (·.2)).sum
theorem nb_iff (x : S26) : nb x = false ↔ (x.f0 = 1 ∨ x.f0 = 2) := by
  unfold nb
  simp
  omega
theorem places_filter (l : List (Int × Nat)) : ∀ n, (places n l).filter nb = (wd n l).map toS ++ [⟨0, ((n + total l : Nat) : Int), ((n + total l : Nat) : Int)⟩] := by
  induction l with
  | nil => intro n; simp [places, wd, total, nb]
  | cons x l ih =>
    intro n
    obtain ⟨k, m⟩ := x
    have e : n + m + total l = n + total ((k, m) :: l) := by simp [total]; omega
    simp only [places, wd, List.filter_cons]
    by_cases hk : k = 1 ∨ k = 2
    · rw [if_pos hk, if_neg (by rw [Bool.not_eq_true]; exact (nb_iff _).2 hk), ih, e]
    · have : nb ⟨k, (n : Int), ((n + m : Nat) : Int)⟩ = true := by
        rw [← Bool.not_eq_false]
        exact fun h => hk ((nb_iff _).1 h)
      rw [if_neg hk, if_pos this, ih, e]
      rfl
theorem scan_total : ∀ (f : Nat) (l : T), l.length ≤ f → total (scan l) = l.length := by
  intro f
  induction f with
  | zero =>
    intro l hf
    obtain rfl : l = [] := List.eq_nil_of_length_eq_zero (by omega)
    rfl
  | succ f ih =>
    intro l hf
    rcases l with _ | ⟨b, r⟩
    · rfl
    · have hl := tk_len b r
      have hd : ((b :: r).drop (tk (b :: r)).2).length = (b :: r).length - (tk (b :: r)).2 := List.length_drop ..
      have hi := ih ((b :: r).drop (tk (b :: r)).2) (by rw [hd]; simp at hf hl ⊢; omega)
      rw [scan_cons]
      unfold total at hi ⊢
      rw [List.map_cons, List.sum_cons, hi, hd]
      omega
def sh (d : Nat) (x : S26) : S26 := ⟨x.f0, x.f1 + (d : Int), x.f2 + (d : Int)⟩
theorem wd_shift (d : Nat) (l : List (Int × Nat)) : ∀ n, (wd (n + d) l).map toS = ((wd n l).map toS).map (sh d) := by
  induction l with
  | nil => intro n; rfl
  | cons x l ih =>
    intro n
    obtain ⟨k, m⟩ := x
    have e : n + d + m = n + m + d := by omega
    simp only [wd]
    split
    · rw [e, ih]
    · rw [List.map_cons, List.map_cons, List.map_cons, e, ih]
      congr 1
/-- What has to be shown of the three lists. -/
theorem parted (s t : T) (hg : ∀ x ∈ scan s, x.1 ≠ 3) : ∃ (a : List S26) (e : S26), wl s = a ++ [e] ∧ wl (s ++ 10 :: t) = a ++ (wl t).map (sh (s.length + 1)) := by
  refine ⟨(wd 0 (scan s)).map toS, _, places_filter _ 0, ?_⟩
  unfold wl
  rw [places_filter, places_filter, wd_part t s.length s 0 (Nat.le_refl _) hg, List.map_append, List.map_append, List.append_assoc]
  congr 1
  have e1 : 0 + s.length + 1 = 0 + (s.length + 1) := by omega
  rw [e1, wd_shift, scan_total _ _ (Nat.le_refl _), scan_total _ _ (Nat.le_refl _)]
  congr 1
  simp only [List.map_cons, List.map_nil, sh]
  congr 1
  have : ((0 + (s ++ 10 :: t).length : Nat) : Int) = ((0 + t.length : Nat) : Int) + ((s.length + 1 : Nat) : Int) := by
    rw [List.length_append, List.length_cons]; omega
  rw [this]
/-- No token that is told bad: none is of the kind 3. -/
theorem first_good (s : ByteArray) : ∀ (d n : Nat), s.size - n = d → n ≤ s.size → (firstE s (places n (scan (s.data.toList.drop n)))).2 = 0 → ∀ x ∈ scan (s.data.toList.drop n), x.1 ≠ 3 := by
  intro d
  induction d using Nat.strongRecOn with
  | _ d ih =>
    intro n hd hn h
    by_cases hlt : n < s.size
    · obtain ⟨c, h1, _⟩ := bt_nat s n hlt
      have hc := drop_cons h1
      have hl : (s.data.toList.drop n).length = s.size - n := by rw [List.length_drop, len]
      have ht := tk_len c (s.data.toList.drop (n + 1))
      rw [hc, scan_cons, ← hc, List.drop_drop] at h ⊢
      rw [← hc, hl] at ht
      generalize tk (s.data.toList.drop n) = p at *
      obtain ⟨ty, m⟩ := p
      dsimp only [places, firstE] at h ht ⊢
      by_cases hz : badE s ⟨ty, (n : Int), ((n + m : Nat) : Int)⟩ = 0
      · rw [if_pos hz] at h
        intro x hx
        rcases List.mem_cons.1 hx with rfl | hx
        · intro (h3 : ty = 3)
          unfold badE at hz
          dsimp only at hz
          rw [if_pos ⟨h3, by omega, by omega, by omega, by omega⟩] at hz
          split at hz <;> omega
        · exact ih (s.size - (n + m)) (by omega) (n + m) rfl (by omega) h x hx
      · rw [if_neg hz] at h
        exact absurd h hz
    · rw [List.drop_of_length_le (by rw [len]; omega), scan_nil]
      intro x hx
      cases hx
theorem rd_app_l (a b : List S26) (i : Nat) (h : i < a.length) : rd_T26 (a ++ b) (i : Int) = rd_T26 a (i : Int) := by
  show (a ++ b).getD i _ = a.getD i _
  rw [List.getD_eq_getElem?_getD, List.getD_eq_getElem?_getD, List.getElem?_append_left h]
theorem rd_app_r (a b : List S26) (d i : Nat) (h : a.length ≤ i) (hb : i - a.length < b.length) : rd_T26 (a ++ b.map (sh d)) (i : Int) = sh d (rd_T26 b ((i - a.length : Nat) : Int)) := by
  show (a ++ b.map (sh d)).getD i _ = sh d (b.getD (i - a.length) _)
  rw [List.getD_eq_getElem?_getD, List.getD_eq_getElem?_getD, List.getElem?_append_right h, List.getElem?_map, List.getElem?_eq_getElem hb]
  rfl
theorem field_shift (b : List S26) (hb : ∀ x ∈ b, 0 ≤ x.f1 ∧ x.f1 ≤ 1000000 ∧ 0 ≤ x.f2 ∧ x.f2 ≤ 1000000) (i : Nat) (hi : i < b.length) (d : Nat) (hd : d ≤ 1000000) :
    wrap64 (wrap64 ((rd_T26 b (i : Int)).f1 + (d : Int)) + 1) = (sh (d + 1) (rd_T26 b (i : Int))).f1 ∧ wrap64 (wrap64 ((rd_T26 b (i : Int)).f2 + (d : Int)) + 1) = (sh (d + 1) (rd_T26 b (i : Int))).f2 := by
  have hx : rd_T26 b (i : Int) ∈ b := by
    show b.getD i _ ∈ b
    rw [List.getD_eq_getElem?_getD, List.getElem?_eq_getElem hi]
    exact List.getElem_mem hi
  have h := hb _ hx
  generalize rd_T26 b (i : Int) = x at h
  dsimp only [sh]
  unfold wrap64
  omega
theorem parted_l (s : ByteArray) (hs : s.size ≤ 2000) (a b : List S26) (e : S26) (hf : ∀ x ∈ b, 0 ≤ x.f1 ∧ x.f1 ≤ 1000000 ∧ 0 ≤ x.f2 ∧ x.f2 ≤ 1000000) (l : List S26) (hl : l = a ++ b.map (sh (s.size + 1))) :
    ∀ (d i : Nat), l.length - i = d → i ≤ l.length → Ev (fun k => oriellaw05_LexParted.l k s (a ++ [e]) b l i) true := by
  have hal : (a ++ [e]).length = a.length + 1 := by simp
  have hll : l.length = a.length + b.length := by rw [hl]; simp
  intro d
  induction d with
  | zero =>
    intro i hd hi
    refine Ev.step (f := fun k => oriellaw05_alive.f k) (fun k => by rw [oriellaw05_LexParted.l, if_neg (by omega)]) ?_
    exact Ev.of oriellaw05_alive.mono alive_some
  | succ d ih =>
    intro i hd hi
    have hI := ih (i + 1) (by omega) (by omega)
    refine Ev.step (f := fun k => oriellaw05_LexParted.l k s (a ++ [e]) b l (i + 1)) (fun k => ?_) hI
    rw [oriellaw05_LexParted.l, if_pos (by omega), hal]
    by_cases hc : i < a.length
    · have e1 : rd_T26 l (i : Int) = rd_T26 (a ++ [e]) (i : Int) := by
        rw [hl, rd_app_l _ _ i hc, rd_app_l _ _ i hc]
      rw [if_pos (by omega), e1, if_pos ⟨rfl, rfl, rfl⟩]
    · have hj : i + 1 - (a.length + 1) = i - a.length := by omega
      have e1 : rd_T26 l (i : Int) = sh (s.size + 1) (rd_T26 b ((i - a.length : Nat) : Int)) := by
        rw [hl, rd_app_r _ _ _ i (by omega) (by omega)]
      obtain ⟨f1, f2⟩ := field_shift b hf (i - a.length) (by omega) s.size (by omega)
      rw [if_neg (by omega), if_pos ⟨by omega, by omega⟩, hj, e1, f1, f2, if_pos ⟨rfl, rfl, rfl⟩]
theorem wl_len (s : T) : (wl s).length ≤ s.length + 1 := by
  unfold wl
  have h1 := List.length_filter_le nb (places 0 (scan s))
  have h2 := places_len 0 (scan s)
  have h3 := scan_len s
  omega
theorem places_bound (l : List (Int × Nat)) : ∀ n, ∀ x ∈ places n l, 0 ≤ x.f1 ∧ x.f1 ≤ ((n + total l : Nat) : Int) ∧ 0 ≤ x.f2 ∧ x.f2 ≤ ((n + total l : Nat) : Int) := by
  induction l with
  | nil =>
    intro n x hx
    simp only [places, List.mem_singleton] at hx
    subst hx
    simp [total]
  | cons y l ih =>
    intro n x hx
    obtain ⟨k, m⟩ := y
    have e : total ((k, m) :: l) = m + total l := by simp [total]
    simp only [places] at hx
    rcases List.mem_cons.1 hx with rfl | hx
    · rw [e]; dsimp only; omega
    · have := ih (n + m) x hx
      rw [e]
      omega
theorem wl_bound (s : T) : ∀ x ∈ wl s, 0 ≤ x.f1 ∧ x.f1 ≤ (s.length : Int) ∧ 0 ≤ x.f2 ∧ x.f2 ≤ (s.length : Int) := by
  intro x hx
  have := places_bound (scan s) 0 x (List.mem_filter.1 hx).1
  rw [scan_total _ _ (Nat.le_refl _), Nat.zero_add] at this
  exact this
theorem LexParted : oriellaw05_LexParted.Pure := by
  intro s t _ _
  refine Ev.rounds ?_
  have hal : Ev (fun k => oriellaw05_alive.f k) true := Ev.of oriellaw05_alive.mono alive_some
  unfold oriellaw05_LexParted.f
  by_cases h1 : (s.size : Int) > 2000 ∨ (t.size : Int) > 2000
  · simp only [if_pos h1]; exact hal
  · simp only [if_neg h1]
    have ls := len s
    have lt := len t
    refine Ev.bind (f := fun k (bt : Int × Int) => if bt.2 ≠ 0 then oriellaw05_alive.f k else ((lex_Words.f k s).bind fun a => ((lex_Words.f k t).bind fun b => ((lex_Words.f k (s ++ (⟨#[10]⟩ : ByteArray) ++ t)).bind fun l => (if l.length = a.length + b.length - 1 ∧ 0 < a.length ∧ a.length + b.length < 1000000 then oriellaw05_LexParted.l k s a b l 0 else none))))) (first_ev s (by omega)) ?_
    by_cases hz : (firstE s (places 0 (scan s.data.toList))).2 = 0
    · simp only [hz, ne_eq, not_true_eq_false, if_false]
      have hg := first_good s (s.size - 0) 0 rfl (by omega) (by rw [List.drop_zero]; exact hz)
      rw [List.drop_zero] at hg
      obtain ⟨a, e, ha, hl⟩ := parted s.data.toList t.data.toList hg
      rw [ls] at hl
      have hst : (s ++ (⟨#[10]⟩ : ByteArray) ++ t).data.toList = s.data.toList ++ 10 :: t.data.toList := by
        simp
      have w1 := words_ev s (by omega)
      have w2 := words_ev t (by omega)
      have w3 := words_ev (s ++ (⟨#[10]⟩ : ByteArray) ++ t) (by rw [ByteArray.size_append, ByteArray.size_append, show (⟨#[10]⟩ : ByteArray).size = 1 from rfl]; omega)
      rw [hst] at w3
      have b1 := wl_len s.data.toList
      have b2 := wl_len t.data.toList
      have b3 := wl_bound t.data.toList
      rw [ha] at w1 b1
      rw [List.length_append, List.length_singleton] at b1
      generalize wl t.data.toList = b at *
      generalize wl (s.data.toList ++ 10 :: t.data.toList) = l at *
      have hll : l.length = a.length + b.length := by rw [hl]; simp
      refine Ev.bind (f := fun k (a : List S26) => ((lex_Words.f k t).bind fun b => ((lex_Words.f k (s ++ (⟨#[10]⟩ : ByteArray) ++ t)).bind fun l => (if l.length = a.length + b.length - 1 ∧ 0 < a.length ∧ a.length + b.length < 1000000 then oriellaw05_LexParted.l k s a b l 0 else none)))) w1 ?_
      refine Ev.bind (f := fun k (b : List S26) => ((lex_Words.f k (s ++ (⟨#[10]⟩ : ByteArray) ++ t)).bind fun l => (if l.length = (a ++ [e]).length + b.length - 1 ∧ 0 < (a ++ [e]).length ∧ (a ++ [e]).length + b.length < 1000000 then oriellaw05_LexParted.l k s (a ++ [e]) b l 0 else none))) w2 ?_
      refine Ev.bind (f := fun k (l : List S26) => (if l.length = (a ++ [e]).length + b.length - 1 ∧ 0 < (a ++ [e]).length ∧ (a ++ [e]).length + b.length < 1000000 then oriellaw05_LexParted.l k s (a ++ [e]) b l 0 else none)) w3 ?_
      have hq : l.length = (a ++ [e]).length + b.length - 1 ∧ 0 < (a ++ [e]).length ∧ (a ++ [e]).length + b.length < 1000000 := by
        rw [List.length_append, List.length_singleton, hll]; omega
      simp only [if_pos hq]
      exact parted_l s (by omega) a b e (fun x hx => by have := b3 x hx; omega) l hl (l.length - 0) 0 rfl (by omega)
    · simp only [ne_eq, hz, not_false_eq_true, if_true]
      exact hal
end Go.Proofs.Ytcccambfcedakaa.Pure
