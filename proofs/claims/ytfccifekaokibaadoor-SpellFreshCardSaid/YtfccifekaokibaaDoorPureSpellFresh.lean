/- The law SpellFresh, in plain words. -/
import Derived.Test.YtfccifekaokibaaDoorQFx11
import Derived.Test.YtfccifekaokibaaDoorQFx11
import Derived.Test.YtfccifekaokibaaDoorSpEv
import Derived.Test.YtfccifekaokibaaDoorSpNew
import Derived.Test.YtfccifekaokibaaDoorSpAlive
namespace Oriel.Lx
theorem sign_parts : ∀ b : UInt8, isSign b = true → isBlank b = false ∧ b ≠ 40 ∧ b ≠ 34 ∧ isDigit b = false := by
  have key : ∀ n : Fin 256, isSign (UInt8.ofNat n.val) = true → isBlank (UInt8.ofNat n.val) = false ∧ UInt8.ofNat n.val ≠ 40 ∧ UInt8.ofNat n.val ≠ 34 ∧ isDigit (UInt8.ofNat n.val) = false := by decide +kernel
  intro b
  have := key ⟨b.toNat, b.toNat_lt⟩
  simpa using this
theorem word_parts : ∀ b : UInt8, (isSmall b || isGreat b) = true → isSign b = false ∧ isBlank b = false ∧ b ≠ 40 ∧ b ≠ 34 ∧ isDigit b = false ∧ isRest b = true := by
  have key : ∀ n : Fin 256, (isSmall (UInt8.ofNat n.val) || isGreat (UInt8.ofNat n.val)) = true → isSign (UInt8.ofNat n.val) = false ∧ isBlank (UInt8.ofNat n.val) = false ∧ UInt8.ofNat n.val ≠ 40 ∧ UInt8.ofNat n.val ≠ 34 ∧ isDigit (UInt8.ofNat n.val) = false ∧ isRest (UInt8.ofNat n.val) = true := by decide +kernel
  intro b
  have := key ⟨b.toNat, b.toNat_lt⟩
  simpa using this
theorem kind_parts (b : UInt8) (r : T) (h : kindT (b :: r) = 6 ∨ kindT (b :: r) = 7 ∨ kindT (b :: r) = 9) :
    (isSign b = true ∧ (b :: r).all isSign = true) ∨ ((isSmall b || isGreat b) = true ∧ (b :: r).all isRest = true) := by
  unfold kindT at h
  dsimp only at h
  by_cases hm : markT (b :: r) = true
  · rw [if_pos hm] at h; omega
  · rw [if_neg hm] at h
    by_cases hs : (isSign b && (b :: r).all isSign) = true
    · rw [Bool.and_eq_true] at hs
      exact .inl hs
    · rw [if_neg hs] at h
      by_cases hq : (b == 39 && head1 isSmall r && (b :: r).all isRest) = true
      · rw [if_pos hq] at h; omega
      · rw [if_neg hq] at h
        by_cases hw : ((!isSmall b && !isGreat b) || !(b :: r).all isRest) = true
        · rw [if_pos hw] at h; omega
        · rw [Bool.not_eq_true, Bool.or_eq_false_iff] at hw
          obtain ⟨h1, h2⟩ := hw
          refine .inr ⟨?_, by simpa using h2⟩
          cases hsm : isSmall b
          · cases hgr : isGreat b
            · rw [hsm, hgr] at h1; cases h1
            · rfl
          · rfl
theorem run_all (p : UInt8 → Bool) (a : T) (c : UInt8) (ha : a.all p = true) (hc : p c = false) : runLen p (a ++ [c]) = a.length := by
  unfold runLen
  rw [List.takeWhile_append_of_pos (fun x hx => List.all_eq_true.1 ha x hx), List.takeWhile_cons, hc]
  simp
theorem one_name (a : T) (h : kindT a = 6 ∨ kindT a = 7 ∨ kindT a = 9) : scan (32 :: (a ++ [32])) = [(1, 1), (kindT a, a.length), (1, 1)] := by
  obtain ⟨b, r, rfl⟩ : ∃ b r, a = b :: r := by
    cases a with
    | nil => exact absurd h (by decide)
    | cons b r => exact ⟨b, r, rfl⟩
  have hk0 : kindT (b :: r) ≠ 0 := by omega
  have hp := kind_parts b r h
  have hbl : isBlank b = false := by
    rcases hp with ⟨h1, _⟩ | ⟨h1, _⟩
    · exact (sign_parts b h1).1
    · exact (word_parts b h1).2.1
  have t1 : tk (32 :: ((b :: r) ++ [32])) = (1, 1) := by
    have hr : runLen isBlank (32 :: ((b :: r) ++ [32])) = 1 := by
      unfold runLen
      rw [List.takeWhile_cons, show isBlank 32 = true by decide, if_pos rfl, List.cons_append, List.takeWhile_cons, hbl]
      rfl
    unfold tk
    dsimp only
    rw [if_pos (show isBlank 32 = true by decide)]
    exact Prod.ext rfl hr
  have t2 : tk ((b :: r) ++ [32]) = (kindT (b :: r), (b :: r).length) := by
    have wd : ∀ e, e = (b :: r).length → wordsT ((b :: r) ++ [32]) e = (kindT (b :: r), (b :: r).length) := by
      rintro e rfl
      unfold wordsT
      rw [List.take_left, if_neg hk0]
    rcases hp with ⟨h1, h2⟩ | ⟨h1, h2⟩
    · obtain ⟨_, n40, n34, nd⟩ := sign_parts b h1
      have hr := run_all isSign (b :: r) 32 h2 (by decide)
      rw [List.cons_append] at hr wd ⊢
      unfold tk
      dsimp only
      rw [if_neg (by rw [hbl]; exact Bool.false_ne_true), if_neg (fun e => n40 e.1), if_neg n34, if_neg (by rw [nd]; exact Bool.false_ne_true), if_pos h1]
      exact wd _ hr
    · obtain ⟨ns, _, n40, n34, nd, hrb⟩ := word_parts b h1
      have hr := run_all isRest (b :: r) 32 h2 (by decide)
      rw [List.cons_append] at hr wd ⊢
      unfold tk
      dsimp only
      rw [if_neg (by rw [hbl]; exact Bool.false_ne_true), if_neg (fun e => n40 e.1), if_neg n34, if_neg (by rw [nd]; exact Bool.false_ne_true), if_neg (by rw [ns]; exact Bool.false_ne_true), if_pos hrb]
      exact wd _ hr
  have t3 : tk [32] = (1, 1) := by decide
  rw [scan_cons, t1]
  show (1, 1) :: scan ((b :: r) ++ [32]) = _
  have e2 : scan ((b :: r) ++ [32]) = tk ((b :: r) ++ [32]) :: scan (((b :: r) ++ [32]).drop (tk ((b :: r) ++ [32])).2) := by
    rw [List.cons_append]
    exact scan_cons b (r ++ [32])
  rw [e2, t2]
  dsimp only
  rw [List.drop_left, scan_cons, t3]
  rfl
end Oriel.Lx
namespace Go.Proofs.YtfccifekaokibaaDoor.Pure
open Go.RowKit Go.Proofs.YtfccifekaokibaaDoor.QF Go.Proofs.YtfccifekaokibaaDoorW.PrintWords Go.Proofs.YtfccifekaokibaaDoorW.PrintLast Oriel.Lx Go.Proofs.YtfccifekaokibaaDoor.Lx Go.Proofs.YtfccifekaokibaaDoor.Sp
def sp (a : ByteArray) : ByteArray := ((⟨#[32]⟩ : ByteArray) ++ a) ++ (⟨#[32]⟩ : ByteArray)
theorem sp_list (a : ByteArray) : (sp a).data.toList = 32 :: (a.data.toList ++ [32]) := by
  unfold sp
  simp [ByteArray.data_append]
theorem sp_nm (a : ByteArray) (h : kindT a.data.toList = 6 ∨ kindT a.data.toList = 7 ∨ kindT a.data.toList = 9) : nm (sp a) = [⟨kindT a.data.toList, 1, ((1 + a.data.toList.length : Nat) : Int)⟩] := by
  unfold nm
  rw [sp_list, one_name _ h]
  generalize kindT a.data.toList = kd at h ⊢
  have n0 : ∀ x : Tok, (x.f0 = 1 ∨ x.f0 = 0) → lex_Names.no x = true := by
    intro x hx
    unfold lex_Names.no
    rcases hx with hx | hx <;> rw [hx] <;> rfl
  have n1 : ∀ x : Tok, (x.f0 = 6 ∨ x.f0 = 7 ∨ x.f0 = 9) → lex_Names.no x = false := by
    intro x hx
    unfold lex_Names.no
    rcases hx with hx | hx | hx <;> rw [hx] <;> rfl
  unfold places places places places
  rw [List.filter_cons, n0 _ (.inl rfl), List.filter_cons, n1 ⟨kd, _, _⟩ h, List.filter_cons, n0 _ (.inl rfl), List.filter_cons, n0 _ (.inr rfl)]
  simp
theorem sp_key (a : ByteArray) (t : Tok) (h : t.f1 = 1 ∧ t.f2 = ((1 + a.data.toList.length : Nat) : Int)) : key (sp a) t = a.data.toList := by
  obtain ⟨t0, t1, t2⟩ := t
  obtain ⟨h1, h2⟩ := h
  dsimp only at h1 h2
  subst h1
  subst h2
  unfold key
  dsimp only
  rw [ByteArray.data_extract, Array.toList_extract, sp_list]
  rw [show ((1 + a.data.toList.length : Nat) : Int).toNat = 1 + a.data.toList.length from rfl, show (1 : Int).toNat = 1 from rfl]
  simp [List.extract]
theorem more_mem (l : List F) (a : ByteArray) (h : kindT a.data.toList = 6 ∨ kindT a.data.toList = 7 ∨ kindT a.data.toList = 9) (x : T) : x ∈ keysL (l ++ [⟨⟨#[]⟩, sp a⟩]) ↔ x ∈ keysL l ∨ x = a.data.toList := by
  rw [keysL_mem, keysL_mem]
  constructor
  · rintro ⟨f, hf, t, ht, hx⟩
    rcases List.mem_append.1 hf with hf | hf
    · exact .inl ⟨f, hf, t, ht, hx⟩
    · rw [List.mem_singleton] at hf
      subst hf
      dsimp only at ht hx
      rw [sp_nm a h, List.mem_singleton] at ht
      subst ht
      exact .inr (hx.symm.trans (sp_key a _ ⟨rfl, rfl⟩))
  · rintro (⟨f, hf, t, ht, hx⟩ | rfl)
    · exact ⟨f, List.mem_append_left _ hf, t, ht, hx⟩
    · exact ⟨⟨⟨#[]⟩, sp a⟩, List.mem_append_right _ (by simp), ⟨kindT a.data.toList, 1, ((1 + a.data.toList.length : Nat) : Int)⟩, by rw [sp_nm a h]; simp, sp_key a _ ⟨rfl, rfl⟩⟩
theorem keysL_nodup (l : List F) : (keysL l).Nodup := (List.mergeSort_perm _ _).nodup_iff.2 (ddk_nodup _)
theorem more_len (l : List F) (a : ByteArray) (h : kindT a.data.toList = 6 ∨ kindT a.data.toList = 7 ∨ kindT a.data.toList = 9) (hn : a.data.toList ∉ keysL l) : (keysL (l ++ [⟨⟨#[]⟩, sp a⟩])).length = (keysL l).length + 1 := by
  have hp : (keysL (l ++ [⟨⟨#[]⟩, sp a⟩])).Perm (a.data.toList :: keysL l) := by
    refine (List.perm_ext_iff_of_nodup (keysL_nodup _) (List.nodup_cons.2 ⟨hn, keysL_nodup _⟩)).2 fun x => ?_
    rw [more_mem l a h, List.mem_cons]
    exact Or.comm
  rw [hp.length_eq, List.length_cons]
theorem in_loop (l : List ByteArray) (hl : l.length ≤ 1000000) (s : ByteArray) : ∀ d n : Nat, l.length - n = d → n ≤ l.length →
    Ev (fun k => orielref04_In.l0 k l s (n : Int)) (((l.drop n).map (·.data.toList)).contains s.data.toList) := by
  intro d
  induction d with
  | zero =>
    intro n hd hn
    have e : l.drop n = [] := List.drop_of_length_le (by omega)
    rw [e]
    exact Ev.step (f := fun _ => some false) (fun k => by rw [orielref04_In.l0, if_neg (by omega)]) (Ev.now _)
  | succ d ih =>
    intro n hd hn
    have hlt : n < l.length := by omega
    have hrd : rdOf ByteArray.empty l (n : Int) = l[n] := by
      unfold rdOf
      rw [show ((n : Int)).toNat = n from rfl, List.getD_eq_getElem?_getD, List.getElem?_eq_getElem hlt]
      rfl
    rw [List.drop_eq_getElem_cons hlt, List.map_cons, List.contains_cons]
    have step := ih (n + 1) (by omega) (by omega)
    by_cases he : l[n].data.toList = s.data.toList
    · have hb : (s.data.toList == l[n].data.toList) = true := by rw [beq_iff_eq]; exact he.symm
      rw [hb, Bool.true_or]
      exact Ev.step (f := fun _ => some true) (fun k => by rw [orielref04_In.l0, if_pos (by omega), if_pos (by omega), hrd, ByteArray.toList_eq, ByteArray.toList_eq, if_pos he]) (Ev.now _)
    · have hb : (s.data.toList == l[n].data.toList) = false := by rw [beq_eq_false_iff_ne]; exact fun h => he h.symm
      rw [hb, Bool.false_or]
      refine Ev.step (f := fun k => orielref04_In.l0 k l s ((n + 1 : Nat) : Int)) (fun k => by rw [orielref04_In.l0, if_pos (by omega), if_pos (by omega), hrd, ByteArray.toList_eq, ByteArray.toList_eq, if_neg he, wrap_nat n (by omega)]) step
theorem in_ev (L : List T) (hl : L.length ≤ 1000000) (s : ByteArray) : Ev (fun k => orielref04_In.f k (L.map ofL) s) (decide (s.data.toList ∈ L)) := by
  have := in_loop (L.map ofL) (by rw [List.length_map]; exact hl) s (L.map ofL).length 0 (by omega) (by omega)
  rw [List.drop_zero, List.map_map] at this
  have e : (L.map ((fun x : ByteArray => x.data.toList) ∘ ofL)) = L := by
    refine (List.map_congr_left fun x _ => ?_).trans (List.map_id _)
    exact ofL_list x
  rw [e] at this
  rw [show decide (s.data.toList ∈ L) = L.contains s.data.toList by simp]
  exact this
theorem gp_none (l : List F) (x : T) (hx : x ∉ keysL l) : (Gp (spellP 0 l) x).length = 0 := by
  apply Classical.byContradiction
  intro h0
  apply hx
  unfold keysL
  rw [(List.mergeSort_perm _ _).mem_iff, ddk_mem]
  unfold Gp at h0
  rw [List.length_map] at h0
  obtain ⟨p, hp⟩ := List.exists_mem_of_length_pos (Nat.pos_of_ne_zero h0)
  obtain ⟨h1, h2⟩ := List.mem_filter.1 hp
  exact List.mem_map.2 ⟨p, h1, by simpa using h2⟩
theorem free_ev (l : List F) (h : FewF l) (a : ByteArray) (ha : a.size ≤ 1000000) (hal : alikeT a.data.toList a.data.toList = true) : Ev (fun k => spell_Free.f k a l) (decide (a.data.toList ∉ keysL l)) := by
  unfold spell_Free.f
  refine Ev.bind (f := fun k t => if t = true then (if a.size ≤ 1000000 then (spell_spelled.f k l).bind fun P => some (decide ((Gp P a.data.toList).length = 0)) else none) else some false) (alike_ev _ _ (by omega) (by omega)) ?_
  rw [hal]
  simp only [if_true, if_pos ha]
  refine Ev.bind (f := fun _ P => some (decide ((Gp P a.data.toList).length = 0))) (spelled_ev l h) ?_
  have e : decide ((Gp (spellP 0 l) a.data.toList).length = 0) = decide (a.data.toList ∉ keysL l) := by
    by_cases hx : a.data.toList ∈ keysL l
    · rw [decide_eq_false (gp_some l _ hx), decide_eq_false (fun g => g hx)]
    · rw [decide_eq_true (gp_none l _ hx), decide_eq_true hx]
  rw [e]
  exact Ev.now _
/-- What the law asks of what is fresh. -/
def Good (l : List F) (s a : ByteArray) : Prop := (kindT a.data.toList = 6 ∨ kindT a.data.toList = 7 ∨ kindT a.data.toList = 9) ∧ alikeT a.data.toList s.data.toList = true ∧ a.data.toList ∉ keysL l ∧ a.size ≤ 9000
theorem good_law (l : List F) (h : FewS l) (s : ByteArray) (hs : s.size ≤ 100) (a : ByteArray) (hg : Good l s a) (hf : Ev (fun k => spell_Fresh.f k s l) (a, true)) : Ev (fun k => oriellaw16_SpellFresh.j0 k l s false) true := by
  obtain ⟨g1, g2, g3, g4⟩ := hg
  have hF := h.big
  have haa : alikeT a.data.toList a.data.toList = true := by
    rw [alike_refl]
    unfold mayT
    rcases g1 with g1 | g1 | g1 <;> rw [g1] <;> rfl
  have hsz : (sp a).size ≤ 10000 := by
    rw [← len, sp_list, List.length_cons, List.length_append, List.length_singleton, len]
    omega
  have hM : FewF (l ++ [⟨⟨#[]⟩, sp a⟩]) := by
    refine ⟨by rw [List.length_append, List.length_singleton]; have := h.1; omega, fun f hfm => ?_⟩
    rcases List.mem_append.1 hfm with hfm | hfm
    · exact hF.2 f hfm
    · rw [List.mem_singleton] at hfm
      subst hfm
      exact hsz
  obtain ⟨K1, e1⟩ := hf
  obtain ⟨K2, e2⟩ := taken_ev l hF
  obtain ⟨K3, e3⟩ := taken_ev _ hM
  obtain ⟨K4, e4⟩ := alike_ev a s (by omega) (by omega)
  obtain ⟨K5, e5⟩ := free_ev l hF a (by omega) haa
  obtain ⟨K6, e6⟩ := free_ev _ hM a (by omega) haa
  obtain ⟨K7, e7⟩ := in_ev (keysL (l ++ [⟨⟨#[]⟩, sp a⟩])) (by have := keysL_len _ hM; omega) a
  obtain ⟨K8, e8⟩ := in_ev (keysL l) (by have := keysL_len _ hF; omega) a
  obtain ⟨K9, e9⟩ := alive16
  have hin : a.data.toList ∈ keysL (l ++ [⟨⟨#[]⟩, sp a⟩]) := (more_mem l a g1 _).2 (.inr rfl)
  rw [g2] at e4
  rw [decide_eq_true g3] at e5
  rw [decide_eq_false (fun g => g hin)] at e6
  rw [decide_eq_true hin] at e7
  rw [decide_eq_false g3] at e8
  have hl1 := more_len l a g1 g3
  have hl2 := keysL_len l hF
  have hl4 := h.1
  refine ⟨K1 + K2 + K3 + K4 + K5 + K6 + K7 + K8 + K9 + 1, fun k hk => ?_⟩
  obtain ⟨k, rfl⟩ : ∃ q, k = q + 1 := ⟨k - 1, by omega⟩
  have f1 := e1 k (by omega)
  have f2 := e2 k (by omega)
  have f3 := e3 k (by omega)
  have f4 := e4 k (by omega)
  have f5 := e5 k (by omega)
  have f6 := e6 k (by omega)
  have f7 := e7 k (by omega)
  have f8 := e8 k (by omega)
  have f9 := e9 k (by omega)
  dsimp only at f1 f2 f3 f4 f5 f6 f7 f8 f9
  have s1 : 1 + a.size ≤ 9223372036854775807 := by omega
  have s2 : ((⟨#[32]⟩ : ByteArray) ++ a).size + 1 ≤ 9223372036854775807 := by
    rw [ByteArray.size_append, show (⟨#[32]⟩ : ByteArray).size = 1 from rfl]
    omega
  have ew : (((keysL (l ++ [⟨⟨#[]⟩, sp a⟩])).map ofL).length : Int) = wrap64 ((((keysL l).map ofL).length : Int) + 1) := by
    rw [List.length_map, List.length_map, hl1]
    unfold wrap64
    omega
  show oriellaw16_SpellFresh.j0 (k + 1) l s false = some true
  rw [oriellaw16_SpellFresh.j0, if_neg Bool.false_ne_true, f1, Option.bind_some]
  dsimp only
  rw [if_pos rfl, Option.bind_some, if_pos (by rw [List.length_nil]; omega), Option.bind_some, if_pos s1, if_pos s2, if_pos (by rw [List.nil_append]; omega), Option.bind_some, f2, Option.bind_some, List.nil_append]
  rw [show ((⟨#[32]⟩ : ByteArray) ++ a) ++ (⟨#[32]⟩ : ByteArray) = sp a from rfl, f3, Option.bind_some, f4, Option.bind_some, if_pos rfl, f5, Option.bind_some, if_pos rfl, f6, Option.bind_some, if_neg Bool.false_ne_true, if_pos ew, f7, Option.bind_some, if_pos rfl, f8, Option.bind_some, if_neg Bool.false_ne_true, f9]
  rfl
/-! ### words and caps -/
theorem alike_kinds (a b : T) (k : Int) (hk : k = 6 ∨ k = 7) (ha : kindT a = k) (hb : kindT b = k) : alikeT a b = true := by
  unfold alikeT
  rw [ha, hb, if_pos rfl]
  rcases hk with rfl | rfl <;> rfl
theorem cand_len (up : Bool) (i : Nat) : (cand up i).length ≤ i / 3 + 3 := by
  have h := dec_short (i / 3)
  have key : ∀ (m u : Nat), u ≤ m → (Go.Lib.decDigits u).length ≤ u + 1 := by
    intro m
    induction m with
    | zero =>
      intro u hu
      rw [Go.Lib.decDigits, dif_pos (by omega)]
      simp
    | succ m ih =>
      intro u hu
      rw [Go.Lib.decDigits]
      by_cases h : u < 10
      · rw [dif_pos h]; simp
      · rw [dif_neg h, List.length_append, List.length_singleton]
        have := ih (u / 10) (by omega)
        omega
  unfold cand tail
  rw [List.length_cons]
  split
  · simp
  · have := key _ _ (Nat.le_refl (i / 3))
    omega
theorem word_fresh (l : List F) (h : FewS l) (s : ByteArray) (hs : s.size ≤ 100) (sp : Int) (up : Bool) (hsp : (sp = 1 ∧ up = false) ∨ (sp = 4 ∧ up = true)) (hk : kindT s.data.toList = if up then 7 else 6) : ∃ a, Good l s a ∧ Ev (fun k => spell_Fresh.f k s l) (a, true) := by
  have hF := h.big
  have hlen : (keysL l).length ≤ 6004 := by
    have := keysL_lenB 1500 l h.2
    have := h.1
    omega
  have e : (((keysL l).map ofL).map (·.data.toList)) = keysL l := by
    rw [List.map_map]
    refine (List.map_congr_left fun x _ => ?_).trans (List.map_id _)
    exact ofL_list x
  obtain ⟨i0, h1, h2, h3, h4⟩ := fresh_of sp up hsp ((keysL l).map ofL) (by rw [List.length_map]; omega)
  rw [List.length_map] at h1
  rw [e] at h2
  have hc := cand_len up i0
  refine ⟨txt (cand up i0), ⟨?_, ?_, ?_, ?_⟩, ?_⟩
  · rw [txt_list, cand_kind]
    cases up <;> simp
  · rw [txt_list]
    exact alike_kinds _ _ (if up then 7 else 6) (by cases up <;> simp) (cand_kind _ _) hk
  · rw [txt_list]
    intro hm
    rw [← Bool.not_eq_true] at h2
    exact h2 (by simpa using hm)
  · rw [txt_size]
    omega
  · obtain ⟨K1, e1⟩ := kind_ev s (by omega)
    obtain ⟨K2, e2⟩ := taken_ev l hF
    obtain ⟨K3, e3⟩ := h4
    rw [hk] at e1
    refine ⟨K1 + K2 + K3, fun k hk2 => ?_⟩
    have f1 := e1 k (by omega)
    have f2 := e2 k (by omega)
    have f3 := e3 k (by omega)
    dsimp only at f1 f2 f3
    unfold spell_Fresh.f
    dsimp only
    rcases hsp with ⟨rfl, rfl⟩ | ⟨rfl, rfl⟩
    · have f0 : name_Kind.f k s = some 6 := f1
      rw [f0, Option.bind_some, if_pos rfl, f2, Option.bind_some, f3]
    · have f0 : name_Kind.f k s = some 7 := f1
      rw [f0, Option.bind_some, if_neg (by decide), if_pos rfl, f2, Option.bind_some, f3]
/-! ### signs -/
theorem cont_mem (L : List T) (x : T) : L.contains x = true ↔ x ∈ L := by simp
def rep (c : UInt8) (n : Nat) : ByteArray := txt (List.replicate n c)
theorem rep_list (c : UInt8) (n : Nat) : (rep c n).data.toList = List.replicate n c := txt_list _
theorem rep_size (c : UInt8) (n : Nat) : (rep c n).size = n := by rw [← len, rep_list, List.length_replicate]
theorem rep_snoc (c : UInt8) (n : Nat) : rep c n ++ rep c 1 = rep c (n + 1) := by
  unfold rep
  rw [txt_append, List.replicate_append_replicate]
theorem rep_kind (c : UInt8) (hc : isSign c = true) (n : Nat) : kindT (List.replicate (n + 2) c) = 9 := by
  have hm : markT (c :: c :: List.replicate n c) = false := by
    unfold markT
    have : reserved (c :: c :: List.replicate n c) = false := by
      unfold reserved
      cases n with
      | succ n => simp [List.replicate_succ]
      | zero =>
        have key : ∀ m : Fin 256, (([UInt8.ofNat m.val, UInt8.ofNat m.val] : T) == [61] || [UInt8.ofNat m.val, UInt8.ofNat m.val] == [61, 62] || [UInt8.ofNat m.val, UInt8.ofNat m.val] == [124] || [UInt8.ofNat m.val, UInt8.ofNat m.val] == [58] || [UInt8.ofNat m.val, UInt8.ofNat m.val] == [58, 62] || [UInt8.ofNat m.val, UInt8.ofNat m.val] == [45, 62]) = false := by decide +kernel
        have := key ⟨c.toNat, c.toNat_lt⟩
        simpa using this
    rw [this]
    rfl
  have hall : (c :: c :: List.replicate n c).all isSign = true := by
    rw [List.all_eq_true]
    intro b hb
    have : b = c := by
      rcases List.mem_cons.1 hb with e | hb
      · exact e
      · rcases List.mem_cons.1 hb with e | hb
        · exact e
        · exact (List.mem_replicate.1 hb).2
    rw [this]
    exact hc
  rw [List.replicate_succ, List.replicate_succ]
  unfold kindT
  dsimp only
  rw [hm, hc, hall]
  rfl
theorem rep_alike (c : UInt8) (r : T) (hc : isSign c = true) (hk : kindT (c :: r) = 9) (n : Nat) : alikeT (List.replicate (n + 2) c) (c :: r) = true := by
  have hl : levT (List.replicate (n + 2) c) = levT (c :: r) := by
    unfold levT
    rw [rep_kind c hc n, hk]
    rfl
  unfold alikeT
  rw [rep_kind c hc n, hk, if_pos rfl, if_pos rfl, hl, if_pos rfl]
  simp
theorem sign_fresh (l : List F) (h : FewS l) (s : ByteArray) (hs : s.size ≤ 100) (hk : kindT s.data.toList = 9) : ∃ a, Good l s a ∧ Ev (fun k => spell_Fresh.f k s l) (a, true) := by
  have hF := h.big
  obtain ⟨c, r, hcr⟩ : ∃ c r, s.data.toList = c :: r := by
    cases e : s.data.toList with
    | nil => rw [e] at hk; exact absurd hk (by decide)
    | cons c r => exact ⟨c, r, rfl⟩
  have hc : isSign c = true := by
    rw [hcr] at hk
    rcases kind_parts c r (.inr (.inr hk)) with ⟨h1, _⟩ | ⟨h1, h2⟩
    · exact h1
    · unfold kindT at hk
      dsimp only at hk
      have hns := (word_parts c h1).1
      rw [hns] at hk
      by_cases hm : markT (c :: r) = true
      · rw [if_pos hm] at hk; omega
      · rw [if_neg hm, if_neg (by simp)] at hk
        by_cases hq : (c == 39 && head1 isSmall r && (c :: r).all isRest) = true
        · rw [if_pos hq] at hk; omega
        · rw [if_neg hq] at hk
          by_cases hw : ((!isSmall c && !isGreat c) || !(c :: r).all isRest) = true
          · rw [if_pos hw] at hk; omega
          · rw [if_neg hw] at hk
            by_cases hgr : isGreat c = true
            · rw [if_pos hgr] at hk; omega
            · rw [if_neg hgr] at hk
              split at hk <;> omega
  have hsz : 1 ≤ s.size := by rw [← len, hcr]; simp
  have hext : s.extract 0 1 = rep c 1 := by
    apply ByteArray.ext
    apply Array.ext'
    rw [ByteArray.data_extract, Array.toList_extract, hcr]
    simp [List.extract, rep, txt]
  -- the first that is not taken
  obtain ⟨N, hN1, hN2, hN3⟩ := least (fun n => (keysL l).contains (List.replicate (n + 2) c)) 1500 ⟨1500, Nat.le_refl _, by
    rw [← Bool.not_eq_true]
    intro hm
    have hm2 : List.replicate (1500 + 2) c ∈ keysL l := (cont_mem _ _).1 hm
    obtain ⟨f, hf, t, _, hx⟩ := (keysL_mem _ l).1 hm2
    have h1 := key_le f.f1 t
    rw [hx, List.length_replicate] at h1
    have := h.2 f hf
    omega⟩
  have hal : ∀ M : Nat, M ≤ 2000 → ∃ K, ∀ k, K ≤ k → ∀ n, n ≤ M → name_Alike.f k (rep c (n + 2)) s = some true := by
    have one : ∀ n : Nat, n ≤ 2000 → Ev (fun k => name_Alike.f k (rep c (n + 2)) s) true := by
      intro n hn
      have := alike_ev (rep c (n + 2)) s (by rw [rep_size]; omega) (by omega)
      rw [rep_list, hcr, rep_alike c r hc (by rw [← hcr]; exact hk) n] at this
      exact this
    intro M
    induction M with
    | zero =>
      intro _
      obtain ⟨K, hK⟩ := one 0 (by omega)
      refine ⟨K, fun k hk n hn => ?_⟩
      obtain rfl : n = 0 := by omega
      exact hK k hk
    | succ M ih =>
      intro hM
      obtain ⟨K, hK⟩ := ih (by omega)
      obtain ⟨K2, hK2⟩ := one (M + 1) hM
      refine ⟨K + K2, fun k hk n hn => ?_⟩
      rcases Nat.lt_or_ge n (M + 1) with g | g
      · exact hK k (by omega) n (by omega)
      · obtain rfl : n = M + 1 := by omega
        exact hK2 k (by omega)
  obtain ⟨K0, hK0⟩ := hal 1500 (by omega)
  have hin : ∀ n, n < N → List.replicate (n + 2) c ∈ keysL l := fun n hn => (cont_mem _ _).1 (hN3 n hn)
  have hout : List.replicate (N + 2) c ∉ keysL l := by
    rw [← Bool.not_eq_true] at hN2
    intro hm
    exact hN2 ((cont_mem _ _).2 hm)
  have lp : ∀ k, K0 ≤ k → ∀ d n g, N - n = d → n ≤ N → d < g → frLoop k s (rep c 1) (spellP 0 l) g (rep c (n + 2)) = some (rep c (N + 2)) := by
    intro k hk d
    induction d with
    | zero =>
      intro n g hd hn hg
      obtain rfl : n = N := by omega
      obtain ⟨g, rfl⟩ : ∃ q, g = q + 1 := ⟨g - 1, by omega⟩
      unfold frLoop
      rw [if_pos (by rw [rep_size]; omega), hK0 k hk n (by omega), Option.bind_some, if_pos rfl, rep_list, if_pos (gp_none l _ hout)]
    | succ d ih =>
      intro n g hd hn hg
      obtain ⟨g, rfl⟩ : ∃ q, g = q + 1 := ⟨g - 1, by omega⟩
      unfold frLoop
      rw [if_pos (by rw [rep_size]; omega), hK0 k hk n (by omega), Option.bind_some, if_pos rfl, rep_list, if_neg (gp_some l _ (hin n (by omega))), rep_snoc]
      exact ih (n + 1) g (by omega) (by omega) (by omega)
  refine ⟨rep c (N + 2), ⟨?_, ?_, ?_, ?_⟩, ?_⟩
  · rw [rep_list, rep_kind c hc N]
    simp
  · rw [rep_list, hcr]
    exact rep_alike c r hc (by rw [← hcr]; exact hk) N
  · rw [rep_list]
    exact hout
  · rw [rep_size]
    omega
  · obtain ⟨K1, e1⟩ := kind_ev s (by omega)
    obtain ⟨K2, e2⟩ := spelled_ev l hF
    rw [hk] at e1
    refine ⟨K1 + K2 + K0 + N + 3, fun k hk2 => ?_⟩
    have f1 := e1 k (by omega)
    have f2 := e2 k (by omega)
    dsimp only at f1 f2
    have f3 := lp k (by omega) N 0 k (by omega) (by omega) (by omega)
    unfold spell_Fresh.f
    dsimp only
    rw [f1, Option.bind_some, if_neg (by decide), if_neg (by decide), if_pos rfl, f2, Option.bind_some, if_pos hsz, hext, rep_snoc, f3, Option.bind_some]
/-! ### the law -/
theorem none_fresh (l : List F) (s : ByteArray) (hs : s.size ≤ 100) (hk : ¬ (kindT s.data.toList = 6 ∨ kindT s.data.toList = 7 ∨ kindT s.data.toList = 9)) : Ev (fun k => oriellaw16_SpellFresh.j0 k l s false) true := by
  have hal : alikeT s.data.toList s.data.toList = false := by
    rw [alike_refl]
    unfold mayT
    have h6 : ¬ kindT s.data.toList = 6 := fun e => hk (.inl e)
    have h7 : ¬ kindT s.data.toList = 7 := fun e => hk (.inr (.inl e))
    have h9 : ¬ kindT s.data.toList = 9 := fun e => hk (.inr (.inr e))
    simp [h6, h7, h9]
  obtain ⟨K1, e1⟩ := kind_ev s (by omega)
  obtain ⟨K2, e2⟩ := alike_ev s s (by omega) (by omega)
  obtain ⟨K3, e3⟩ := alive16
  rw [hal] at e2
  refine ⟨K1 + K2 + K3 + 1, fun k hk2 => ?_⟩
  obtain ⟨k, rfl⟩ : ∃ q, k = q + 1 := ⟨k - 1, by omega⟩
  have f1 := e1 k (by omega)
  have f2 := e2 k (by omega)
  have f3 := e3 k (by omega)
  dsimp only at f1 f2 f3
  have hf : spell_Fresh.f k s l = some (⟨#[]⟩, false) := by
    unfold spell_Fresh.f
    rw [f1, Option.bind_some, if_neg (fun e => hk (.inl e)), if_neg (fun e => hk (.inr (.inl e))), if_neg (fun e => hk (.inr (.inr e)))]
  show oriellaw16_SpellFresh.j0 (k + 1) l s false = some true
  rw [oriellaw16_SpellFresh.j0, if_neg Bool.false_ne_true, hf, Option.bind_some]
  dsimp only
  rw [if_neg Bool.false_ne_true, if_pos (by rw [ByteArray.toList_eq]), f2, Option.bind_some, if_neg Bool.false_ne_true, f3]
  rfl
theorem SpellFresh (l : List F) (s : ByteArray) (_ : ∀ f ∈ l, f.f0.size ≤ maxLen ∧ f.f1.size ≤ maxLen) (_ : s.size ≤ 140737488351232) : ∃ k, oriellaw16_SpellFresh.f k l s = some true := by
  refine Ev.rounds (g := fun k => oriellaw16_SpellFresh.f k l s) ?_
  have skip : Ev (fun k => oriellaw16_SpellFresh.j0 k l s true) true := by
    refine Ev.step (f := fun k => (oriellaw16_alive.f k).bind fun t192 => some t192) (fun k => by rw [oriellaw16_SpellFresh.j0, if_pos rfl]) ?_
    exact Ev.bind (f := fun _ t => some t) alive16 (Ev.now _)
  obtain ⟨b, h1, h2⟩ := few_ev l
  unfold oriellaw16_SpellFresh.f
  refine Ev.bind (f := fun k t191 => if t191 = true then (oriellaw16_SpellFresh.j0 k l s (decide ((s.size : Int) > 100))) else (oriellaw16_SpellFresh.j0 k l s true)) h1 ?_
  cases b with
  | false =>
    simp only [Bool.false_eq_true, if_false]
    exact skip
  | true =>
    simp only [if_true]
    have h := h2 rfl
    by_cases hs : (s.size : Int) > 100
    · rw [decide_eq_true hs]
      exact skip
    · rw [decide_eq_false hs]
      have hs2 : s.size ≤ 100 := by omega
      by_cases h6 : kindT s.data.toList = 6
      · obtain ⟨a, hg, hf⟩ := word_fresh l h s hs2 1 false (.inl ⟨rfl, rfl⟩) h6
        exact good_law l h s hs2 a hg hf
      · by_cases h7 : kindT s.data.toList = 7
        · obtain ⟨a, hg, hf⟩ := word_fresh l h s hs2 4 true (.inr ⟨rfl, rfl⟩) h7
          exact good_law l h s hs2 a hg hf
        · by_cases h9 : kindT s.data.toList = 9
          · obtain ⟨a, hg, hf⟩ := sign_fresh l h s hs2 h9
            exact good_law l h s hs2 a hg hf
          · exact none_fresh l s hs2 (by omega)
end Go.Proofs.YtfccifekaokibaaDoor.Pure
