/- The printed functions of package name come to the plain wordsT of LxSpec. -/
import Derived.Test.YtfccifekaokibaaGreatDoorQTx4
import Derived.Test.YtfccifekaokibaaGreatDoorLxSpec
namespace Go.Proofs.YtfccifekaokibaaGreatDoor.Lx
open Go.RowKit Go.Proofs.YtfccifekaokibaaGreatDoor.QT Go.Proofs.YtfccifekaokibaaGreatDoorW.PrintWords Go.Proofs.YtfccifekaokibaaGreatDoorW.PrintLast Oriel.Lx
theorem all_bytes {P : UInt8 → Prop} (h : ∀ n : Fin 256, P (UInt8.ofNat n.val)) (c : UInt8) : P c := by
  have := h ⟨c.toNat, c.toNat_lt⟩
  simpa using this
theorem small_f (c : UInt8) : name_small.f (c.toNat : Int) = some (isSmall c) := by
  refine all_bytes (P := fun c => name_small.f (c.toNat : Int) = some (isSmall c)) ?_ c
  decide +kernel
theorem great_f (c : UInt8) : name_great.f (c.toNat : Int) = some (isGreat c) := by
  refine all_bytes (P := fun c => name_great.f (c.toNat : Int) = some (isGreat c)) ?_ c
  decide +kernel
theorem rest_f (c : UInt8) : name_rest.f (c.toNat : Int) = some (isRest c) := by
  refine all_bytes (P := fun c => name_rest.f (c.toNat : Int) = some (isRest c)) ?_ c
  decide +kernel
theorem sign_f (c : UInt8) : name_sign.f (c.toNat : Int) = some (isSign c) := by
  refine all_bytes (P := fun c => name_sign.f (c.toNat : Int) = some (isSign c)) ?_ c
  decide +kernel
theorem bt_nat (s : ByteArray) (n : Nat) (h : n < s.size) : ∃ c, s.data.toList[n]? = some c ∧ bt s (n : Int) = (c.toNat : Int) := by
  refine ⟨s[n], ?_, ?_⟩
  · rw [List.getElem?_eq_getElem (by rw [data_length]; exact h)]
    rfl
  · simp [bt, h]
theorem len (s : ByteArray) : s.data.toList.length = s.size := data_length s
theorem drop_cons {s : ByteArray} {n : Nat} {c : UInt8} (h : s.data.toList[n]? = some c) : s.data.toList.drop n = c :: s.data.toList.drop (n + 1) := by
  obtain ⟨hn, rfl⟩ := List.getElem?_eq_some_iff.1 h
  exact List.drop_eq_getElem_cons hn
theorem wrap_nat (n : Nat) (h : n ≤ 9223372036854775806) : wrap64 ((n : Int) + 1) = ((n + 1 : Nat) : Int) := by unfold wrap64; omega
/-- A loop that asks of each byte from n on. -/
theorem all_ev (p : Int → Option Bool) (L : Nat → ByteArray → Int → Int → Option Bool)
    (hL : ∀ k s m x, L (k + 1) s m x = if x < m then (if 0 ≤ x then (if x < (s.size : Int) then (p (bt s x)).bind fun t => (if t = true then L k s m (wrap64 (x + 1)) else some false) else none) else none) else some true)
    (q : UInt8 → Bool) (hq : ∀ c : UInt8, p (c.toNat : Int) = some (q c)) (s : ByteArray) (hs : s.size ≤ 140737488351232) :
    ∀ (d n : Nat), s.size - n = d → n ≤ s.size → Ev (fun k => L k s (s.size : Int) (n : Int)) ((s.data.toList.drop n).all q) := by
  intro d
  induction d with
  | zero =>
    intro n hd hn
    have e : n = s.size := by omega
    subst e
    refine Ev.step (f := fun _ => some true) (fun k => by rw [hL, if_neg (by omega)]) ?_
    rw [List.drop_of_length_le (by rw [len]; omega)]
    exact Ev.now _
  | succ d ih =>
    intro n hd hn
    obtain ⟨c, h1, h2⟩ := bt_nat s n (by omega)
    rw [drop_cons h1, List.all_cons]
    have ih' := ih (n + 1) (by omega) (by omega)
    cases hc : q c with
    | true =>
      refine Ev.step (f := fun k => L k s (s.size : Int) ((n + 1 : Nat) : Int)) (fun k => ?_) (by simpa using ih')
      rw [hL, if_pos (by omega), if_pos (by omega), if_pos (by omega), h2, hq, hc]
      simp only [Option.bind_some, if_true]
      rw [wrap_nat n (by omega)]
    | false =>
      refine Ev.step (f := fun k => some false) (fun k => ?_) (by simpa using Ev.now false)
      rw [hL, if_pos (by omega), if_pos (by omega), if_pos (by omega), h2, hq, hc]
      simp
theorem all_sign (s : ByteArray) (hs : s.size ≤ 140737488351232) : Ev (fun k => name_all__name_sign.f k s) (s.data.toList.all isSign) := by
  have := all_ev name_sign.f name_all__name_sign.l0 (fun k s m x => by rw [name_all__name_sign.l0]) isSign sign_f s hs s.size 0 (by omega) (by omega)
  rw [List.drop_zero] at this
  exact this
theorem all_rest (s : ByteArray) (hs : s.size ≤ 140737488351232) : Ev (fun k => name_all__name_rest.f k s) (s.data.toList.all isRest) := by
  have := all_ev name_rest.f name_all__name_rest.l0 (fun k s m x => by rw [name_all__name_rest.l0]) isRest rest_f s hs s.size 0 (by omega) (by omega)
  rw [List.drop_zero] at this
  exact this
theorem mark_f (s : ByteArray) : name_Mark.f s = some (markT s.data.toList) := by
  unfold name_Mark.f name_reserved.f
  rw [ByteArray.toList_eq]
  have hl := len s
  unfold strings_Contains.f
  generalize s.data.toList = l at *
  unfold markT reserved
  by_cases h1 : l = [61]
  · subst h1; simp
  by_cases h2 : l = [61, 62]
  · subst h2; simp
  by_cases h3 : l = [124]
  · subst h3; simp
  by_cases h4 : l = [58]
  · subst h4; simp
  by_cases h5 : l = [58, 62]
  · subst h5; simp
  by_cases h6 : l = [45, 62]
  · subst h6; simp
  simp only [h1, h2, h3, h4, h5, h6, if_false, Option.bind_some, Bool.or_self, Bool.false_or, Bool.false_eq_true, beq_eq_false_iff_ne.2 h1, beq_eq_false_iff_ne.2 h2, beq_eq_false_iff_ne.2 h3, beq_eq_false_iff_ne.2 h4, beq_eq_false_iff_ne.2 h5, beq_eq_false_iff_ne.2 h6]
  rcases l with _ | ⟨c, _ | ⟨d, l⟩⟩
  · rw [if_neg (by simp at hl; omega)]
  · rw [if_pos (by simp at hl; omega)]
    simp only [strings_Contains.g, Option.bind_some]
    refine congrArg some (all_bytes (P := fun c => decide (0 ≤ Lib.indexByte (⟨#[40, 41, 44, 46, 59, 95]⟩ : ByteArray).data.toList c) = marks1.contains c) ?_ c)
    decide +kernel
  · rw [if_neg (by simp at hl; omega)]

theorem bl_irrefl : ∀ l : List UInt8, Op.bytesLess l l = false
  | [] => rfl
  | a :: l => by
    simp only [Op.bytesLess, bl_irrefl l, Bool.and_false, Bool.or_false, decide_eq_false_iff_not]
    exact UInt8.lt_irrefl a
theorem bl_trans : ∀ x y z : List UInt8, Op.bytesLess x y = true → Op.bytesLess y z = true → Op.bytesLess x z = true
  | _, [], _, h, _ => by cases ‹List UInt8› <;> simp [Op.bytesLess] at h
  | _, _ :: _, [], _, h => by simp [Op.bytesLess] at h
  | [], _ :: _, _ :: _, _, _ => rfl
  | a :: x, b :: y, c :: z, h1, h2 => by
    simp only [Op.bytesLess, Bool.or_eq_true, decide_eq_true_eq, Bool.and_eq_true, beq_iff_eq] at h1 h2 ⊢
    rcases h1 with h1 | ⟨rfl, h1⟩
    · rcases h2 with h2 | ⟨rfl, h2⟩
      · exact .inl (UInt8.lt_trans h1 h2)
      · exact .inl h1
    · rcases h2 with h2 | ⟨rfl, h2⟩
      · exact .inl h2
      · exact .inr ⟨rfl, bl_trans x y z h1 h2⟩
theorem less_f (a b : ByteArray) : cmp_Less_string.f a b = some (Op.bytesLess a.data.toList b.data.toList) := by
  simp [cmp_Less_string.f, cmp_isNaN_string.f, ByteArray.toList_eq]
theorem isnan_f (a : ByteArray) : slices_isNaN_string.f a = some false := by simp [slices_isNaN_string.f]
theorem mid_nat (i j : Nat) (h : i + j ≤ 9223372036854775807) : wrap64 ((IntKind.u64.wrap (wrap64 ((i : Int) + j))) / 2) = (((i + j) / 2 : Nat) : Int) := by
  have e1 : wrap64 ((i : Int) + j) = ((i + j : Nat) : Int) := by unfold wrap64; omega
  rw [e1, IntWalk.u64_in _ ⟨by omega, by omega⟩]
  unfold wrap64
  omega
theorem search_ev (l : List ByteArray) (hl : l.length ≤ 4611686018427387903)
    (hs : ∀ a b (ha : a < l.length) (hb : b < l.length), a < b → Op.bytesLess (l[a]).data.toList (l[b]).data.toList = true) (t : ByteArray) :
    ∀ (d i j : Nat), j - i = d → i ≤ j → j ≤ l.length →
      (∀ m (hm : m < l.length), m < i → Op.bytesLess (l[m]).data.toList t.data.toList = true) →
      (∀ m (hm : m < l.length), j ≤ m → Op.bytesLess (l[m]).data.toList t.data.toList = false) →
      ∃ r : Int, Ev (fun k => slices_BinarySearch_string_string.l0 k l t (l.length : Int) (i : Int) (j : Int)) (r, (l.map (·.data.toList)).contains t.data.toList) := by
  intro d
  induction d using Nat.strongRecOn with
  | _ d ih =>
    intro i j hd hij hj hlo hhi
    by_cases hlt : i < j
    · have hm : (i + j) / 2 < l.length := by omega
      have erd : rdOf ByteArray.empty l (((i + j) / 2 : Nat) : Int) = l[(i + j) / 2] := by
        unfold rdOf
        rw [Int.toNat_natCast, List.getD_eq_getElem?_getD, List.getElem?_eq_getElem hm]
        rfl
      cases hb : Op.bytesLess (l[(i + j) / 2]).data.toList t.data.toList with
      | true =>
        obtain ⟨r, hr⟩ := ih (j - ((i + j) / 2 + 1)) (by omega) ((i + j) / 2 + 1) j rfl (by omega) hj (by
          intro m hm' hmi
          by_cases e : m = (i + j) / 2
          · subst e; exact hb
          · exact bl_trans _ _ _ (hs m ((i + j) / 2) hm' hm (by omega)) hb) hhi
        refine ⟨r, Ev.step (fun k => ?_) hr⟩
        rw [slices_BinarySearch_string_string.l0, if_pos (by omega), mid_nat i j (by omega), if_pos (by omega), if_pos (by omega), erd, less_f, hb]
        simp only [Option.bind_some, if_true]
        rw [wrap_nat _ (by omega)]
      | false =>
        obtain ⟨r, hr⟩ := ih ((i + j) / 2 - i) (by omega) i ((i + j) / 2) rfl (by omega) (by omega) hlo (by
          intro m hm' hmi
          by_cases e : m = (i + j) / 2
          · subst e; exact hb
          · cases hx : Op.bytesLess (l[m]).data.toList t.data.toList with
            | false => rfl
            | true => rw [bl_trans _ _ _ (hs ((i + j) / 2) m hm hm' (by omega)) hx] at hb; cases hb)
        refine ⟨r, Ev.step (fun k => ?_) hr⟩
        rw [slices_BinarySearch_string_string.l0, if_pos (by omega), mid_nat i j (by omega), if_pos (by omega), if_pos (by omega), erd, less_f, hb]
        simp
    · have e : i = j := by omega
      subst e
      have hno : ∀ m (hm : m < l.length), m < i → (l[m]).data.toList ≠ t.data.toList := fun m hm hmi e => by
        have := hlo m hm hmi
        rw [e, bl_irrefl] at this
        cases this
      by_cases hin : i < l.length
      · have erd : rdOf ByteArray.empty l (i : Int) = l[i] := by
          simp [rdOf, List.getD_eq_getElem?_getD, List.getElem?_eq_getElem hin]
        by_cases heq : (l[i]).data.toList = t.data.toList
        · refine ⟨i, Ev.step (f := fun _ => some ((i : Int), true)) (fun k => ?_) ?_⟩
          · rw [slices_BinarySearch_string_string.l0, if_neg (by omega), if_pos (by omega), if_pos (by omega), if_pos (by omega), erd, ByteArray.toList_eq, ByteArray.toList_eq, if_pos heq]
          · have : (l.map (·.data.toList)).contains t.data.toList = true := by
              simp only [List.contains_iff_mem, List.mem_map]
              exact ⟨l[i], List.getElem_mem hin, heq⟩
            rw [this]
            exact Ev.now _
        · refine ⟨i, Ev.step (f := fun _ => some ((i : Int), false)) (fun k => ?_) ?_⟩
          · rw [slices_BinarySearch_string_string.l0, if_neg (by omega), if_pos (by omega), if_pos (by omega), if_pos (by omega), erd, ByteArray.toList_eq, ByteArray.toList_eq, if_neg heq, isnan_f]
            simp
          · have : (l.map (·.data.toList)).contains t.data.toList = false := by
              rw [← Bool.not_eq_true, List.contains_iff_mem, List.mem_map]
              rintro ⟨x, hx, he⟩
              obtain ⟨m, hm, rfl⟩ := List.getElem_of_mem hx
              by_cases h1 : m < i
              · exact hno m hm h1 he
              · by_cases h2 : m = i
                · subst h2; exact heq he
                · have h3 := hs i m hin hm (by omega)
                  rw [he, hhi i hin (Nat.le_refl _)] at h3
                  cases h3
            rw [this]
            exact Ev.now _
      · refine ⟨i, Ev.step (f := fun _ => some ((i : Int), false)) (fun k => ?_) ?_⟩
        · rw [slices_BinarySearch_string_string.l0, if_neg (by omega), if_neg (by omega)]
        · have : (l.map (·.data.toList)).contains t.data.toList = false := by
            rw [← Bool.not_eq_true, List.contains_iff_mem, List.mem_map]
            rintro ⟨x, hx, he⟩
            obtain ⟨m, hm, rfl⟩ := List.getElem_of_mem hx
            exact hno m hm (by omega) he
          rw [this]
          exact Ev.now _
def kws : List ByteArray := kwL ++ [(⟨#[119, 104, 101, 114, 101]⟩ : ByteArray)]
theorem kws_sorted : ∀ a b (ha : a < kws.length) (hb : b < kws.length), a < b → Op.bytesLess (kws[a]).data.toList (kws[b]).data.toList = true := by
  have h : ∀ a b : Fin 25, a < b → Op.bytesLess (kws.getD a.val ByteArray.empty).data.toList (kws.getD b.val ByteArray.empty).data.toList = true := by decide +kernel
  intro a b ha hb hab
  have e : kws.length = 25 := by decide +kernel
  have := h ⟨a, by omega⟩ ⟨b, by omega⟩ hab
  simpa [List.getD_eq_getElem?_getD, List.getElem?_eq_getElem ha, List.getElem?_eq_getElem hb] using this
theorem kws_words : kws.map (·.data.toList) = keywords := by decide +kernel
theorem keyword_ev (s : ByteArray) : Ev (fun k => name_Keyword.f k s) (isKeyword s.data.toList) := by
  obtain ⟨r, hr⟩ := search_ev kws (by decide +kernel) kws_sorted s kws.length 0 kws.length rfl (Nat.zero_le _) (Nat.le_refl _) (fun m hm h => absurd h (by omega)) (fun m hm h => by omega)
  rw [kws_words] at hr
  unfold name_Keyword.f name_Keywords.f
  exact Ev.bind (f := fun _ (x : Int × Bool) => some x.2) (a := (r, isKeyword s.data.toList)) hr (Ev.now _)
theorem bt0 (s : ByteArray) (b : UInt8) (r : List UInt8) (h : s.data.toList = b :: r) : bt s 0 = (b.toNat : Int) := by
  obtain ⟨c, h1, h2⟩ := bt_nat s 0 (by rw [← len, h]; simp)
  rw [h] at h1
  simp at h1
  subst h1
  exact h2
theorem bt1 (s : ByteArray) (b c : UInt8) (r : List UInt8) (h : s.data.toList = b :: c :: r) : bt s 1 = (c.toNat : Int) := by
  obtain ⟨d, h1, h2⟩ := bt_nat s 1 (by rw [← len, h]; simp)
  rw [h] at h1
  simp at h1
  subst h1
  exact h2
theorem eqb (b : UInt8) (n : Nat) (hn : n < 256) : ((b.toNat : Int) = (n : Int)) ↔ b = UInt8.ofNat n := by
  constructor
  · intro h
    have : b.toNat = n := by omega
    rw [← this]; simp
  · rintro rfl
    simp [Nat.mod_eq_of_lt hn]
theorem kind_ev (s : ByteArray) (hs : s.size ≤ 140737488351232) : Ev (fun k => name_Kind.f k s) (kindT s.data.toList) := by
  have hl := len s
  rcases hd : s.data.toList with _ | ⟨b, r⟩
  · refine Ev.congr (f := fun _ => some 0) (fun k => ?_) (Ev.now _)
    unfold name_Kind.f
    rw [ByteArray.toList_eq, hd, if_pos rfl]
  · have h0 := bt0 s b r hd
    have hsz : 0 < s.size := by rw [← hl, hd]; simp
    have AS := all_sign s hs
    have AR := all_rest s hs
    have KW := keyword_ev s
    rw [hd] at AS AR KW
    have J2 : ∀ v : Bool, Ev (fun k => name_Kind.j2 k s v) (if v = true then 0 else if isGreat b = true then 7 else if isKeyword (b :: r) = true then 10 else 6) := by
      intro v
      cases v with
      | true => exact Ev.step (f := fun _ => some 0) (fun k => by rw [name_Kind.j2, if_pos rfl]) (Ev.now _)
      | false =>
        cases hg : isGreat b with
        | true => exact Ev.step (f := fun _ => some 7) (fun k => by rw [name_Kind.j2, if_neg (by simp), if_pos (by omega), h0, great_f, hg]; simp) (by simpa using Ev.now (7 : Int))
        | false =>
          refine Ev.step (f := fun k => (name_Keyword.f k s).bind fun t => (if t = true then some 10 else some 6)) (fun k => by rw [name_Kind.j2, if_neg (by simp), if_pos (by omega), h0, great_f, hg]; simp) ?_
          refine Ev.bind (f := fun _ (t : Bool) => (if t = true then some (10 : Int) else some 6)) KW ?_
          cases isKeyword (b :: r) with
          | true => simpa using Ev.now (10 : Int)
          | false => simpa using Ev.now (6 : Int)
    have J1 : ∀ v : Bool, Ev (fun k => name_Kind.j1 k s v) (if v = true then 8 else if ((!isSmall b && !isGreat b) || !(b :: r).all isRest) = true then 0 else if isGreat b = true then 7 else if isKeyword (b :: r) = true then 10 else 6) := by
      intro v
      cases v with
      | true => exact Ev.step (f := fun _ => some 8) (fun k => by rw [name_Kind.j1, if_pos rfl]) (Ev.now _)
      | false =>
        have step : Ev (fun k => (name_all__name_rest.f k s).bind fun t => name_Kind.j2 k s (!t)) (if (!(b :: r).all isRest) = true then 0 else if isGreat b = true then 7 else if isKeyword (b :: r) = true then 10 else 6) :=
          Ev.bind (f := fun k (t : Bool) => name_Kind.j2 k s (!t)) AR (J2 _)
        cases hsm : isSmall b with
        | true =>
          refine Ev.step (f := fun k => (name_all__name_rest.f k s).bind fun t => name_Kind.j2 k s (!t)) (fun k => by rw [name_Kind.j1, if_neg (by simp), if_pos (by omega), h0, small_f, hsm]; simp) ?_
          simpa using step
        | false =>
          cases hg : isGreat b with
          | true =>
            refine Ev.step (f := fun k => (name_all__name_rest.f k s).bind fun t => name_Kind.j2 k s (!t)) (fun k => by rw [name_Kind.j1, if_neg (by simp), if_pos (by omega), h0, small_f, hsm]; simp only [Option.bind_some]; rw [if_neg (by simp), great_f, hg]; simp) ?_
            simpa [hg] using step
          | false =>
            refine Ev.step (f := fun k => name_Kind.j2 k s true) (fun k => by rw [name_Kind.j1, if_neg (by simp), if_pos (by omega), h0, small_f, hsm]; simp only [Option.bind_some]; rw [if_neg (by simp), great_f, hg]; simp) ?_
            simpa using J2 true
    have J0 : ∀ v : Bool, Ev (fun k => name_Kind.j0 k s v) (if v = true then 9 else if (b == 39 && head1 isSmall r && (b :: r).all isRest) = true then 8 else if ((!isSmall b && !isGreat b) || !(b :: r).all isRest) = true then 0 else if isGreat b = true then 7 else if isKeyword (b :: r) = true then 10 else 6) := by
      intro v
      cases v with
      | true => exact Ev.step (f := fun _ => some 9) (fun k => by rw [name_Kind.j0, if_pos rfl]) (Ev.now _)
      | false =>
        by_cases hq : b = 39
        · subst hq
          rcases r with _ | ⟨c, r⟩
          · have e1 : s.size = 1 := by rw [← hl, hd]; rfl
            refine Ev.step (f := fun k => name_Kind.j1 k s false) (fun k => by rw [name_Kind.j0, if_neg (by simp), if_pos (by omega), h0, if_pos (by decide), if_neg (by omega)]) ?_
            simpa [head1] using J1 false
          · have h1 := bt1 s 39 c r hd
            have e1 : 2 ≤ s.size := by rw [← hl, hd]; simp
            cases hsm : isSmall c with
            | true =>
              refine Ev.step (f := fun k => (name_all__name_rest.f k s).bind fun t => name_Kind.j1 k s t) (fun k => by rw [name_Kind.j0, if_neg (by simp), if_pos (by omega), h0, if_pos (by decide), if_pos (by omega), if_pos (by omega), h1, small_f, hsm]; simp) ?_
              have := Ev.bind (f := fun k (t : Bool) => name_Kind.j1 k s t) AR (J1 _)
              simpa [hsm, head1] using this
            | false =>
              refine Ev.step (f := fun k => name_Kind.j1 k s false) (fun k => by rw [name_Kind.j0, if_neg (by simp), if_pos (by omega), h0, if_pos (by decide), if_pos (by omega), if_pos (by omega), h1, small_f, hsm]; simp) ?_
              simpa [hsm, head1] using J1 false
        · have hq' : ¬ ((b.toNat : Int) = 39) := fun e => hq ((eqb b 39 (by omega)).1 e)
          refine Ev.step (f := fun k => name_Kind.j1 k s false) (fun k => by rw [name_Kind.j0, if_neg (by simp), if_pos (by omega), h0, if_neg hq']) ?_
          simpa [hq] using J1 false
    have hm := mark_f s
    rw [hd] at hm
    have base : ∀ k, name_Kind.f k s = if markT (b :: r) = true then some 11 else if isSign b = true then (name_all__name_sign.f k s).bind fun t => name_Kind.j0 k s t else name_Kind.j0 k s false := by
      intro k
      unfold name_Kind.f
      rw [ByteArray.toList_eq, hd, if_neg (by simp), hm]
      simp only [Option.bind_some]
      rw [if_pos (show (0 : Int) < (s.size : Int) by omega), h0, sign_f]
      simp only [Option.bind_some]
    refine Ev.congr base ?_
    simp only [kindT]
    cases hmk : markT (b :: r) with
    | true => simpa [hmk] using Ev.now (11 : Int)
    | false =>
      simp only [Bool.false_eq_true, if_false]
      cases hsg : isSign b with
      | true =>
        have := Ev.bind (f := fun k (t : Bool) => name_Kind.j0 k s t) AS (J0 _)
        simpa only [Bool.true_and, if_true] using this
      | false => simpa only [Bool.false_and, Bool.false_eq_true, if_false] using J0 false
end Go.Proofs.YtfccifekaokibaaGreatDoor.Lx

