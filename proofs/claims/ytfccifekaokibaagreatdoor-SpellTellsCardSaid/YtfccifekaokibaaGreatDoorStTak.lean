/- The document's own Taken and Places come to the same plain words. -/
import Derived.Test.YtfccifekaokibaaGreatDoorQTx16
import Derived.Test.YtfccifekaokibaaGreatDoorQTx18
import Derived.Test.YtfccifekaokibaaGreatDoorStLex
import Derived.Test.YtfccifekaokibaaGreatDoorSpEv
namespace Oriel.Lx
theorem rises_eq : ∀ (a b : List T), a.Pairwise (· < ·) → b.Pairwise (· < ·) → (∀ x, x ∈ a ↔ x ∈ b) → a = b
  | [], [], _, _, _ => rfl
  | [], y :: b, _, _, h => by have := (h y).2 List.mem_cons_self; cases this
  | x :: a, [], _, _, h => by have := (h x).1 List.mem_cons_self; cases this
  | x :: a, y :: b, ha, hb, h => by
    rw [List.pairwise_cons] at ha hb
    have e : x = y := by
      rcases List.mem_cons.1 ((h x).1 List.mem_cons_self) with e | h1
      · exact e
      · rcases List.mem_cons.1 ((h y).2 List.mem_cons_self) with e | h2
        · exact e.symm
        · exact absurd (ha.1 y h2) (List.lt_asymm (hb.1 x h1))
    subst e
    rw [rises_eq a b ha.2 hb.2 (fun z => ?_)]
    constructor
    · intro hz
      rcases List.mem_cons.1 ((h z).1 (List.mem_cons_of_mem _ hz)) with e | h1
      · subst e; exact absurd (ha.1 z hz) (List.lt_irrefl _)
      · exact h1
    · intro hz
      rcases List.mem_cons.1 ((h z).2 (List.mem_cons_of_mem _ hz)) with e | h1
      · subst e; exact absurd (hb.1 z hz) (List.lt_irrefl _)
      · exact h1
theorem put_rises (K : List T) (s : T) (p : Nat) (hK : K.Pairwise (· < ·)) (h1 : ∀ y ∈ K.take p, y < s) (h2 : ∀ y ∈ K.drop p, s < y) : (K.take p ++ s :: K.drop p).Pairwise (· < ·) := by
  rw [List.pairwise_append]
  refine ⟨hK.sublist (List.take_sublist _ _), List.pairwise_cons.2 ⟨h2, hK.sublist (List.drop_sublist _ _)⟩, fun a ha b hb => ?_⟩
  rcases List.mem_cons.1 hb with rfl | hb
  · exact h1 a ha
  · exact List.lt_trans (h1 a ha) (h2 b hb)
theorem put_mem (K : List T) (s x : T) (p : Nat) : x ∈ K.take p ++ s :: K.drop p ↔ x ∈ K ∨ x = s := by
  rw [List.mem_append, List.mem_cons]
  have : x ∈ K ↔ x ∈ K.take p ∨ x ∈ K.drop p := by
    rw [← List.mem_append, List.take_append_drop]
  rw [this]
  constructor
  · rintro (h | h | h)
    · exact .inl (.inl h)
    · exact .inr h
    · exact .inl (.inr h)
  · rintro ((h | h) | h)
    · exact .inl h
    · exact .inr (.inr h)
    · exact .inr (.inl h)
end Oriel.Lx
namespace Go.Proofs.YtfccifekaokibaaGreatDoor.Rf
open Go.RowKit Go.Proofs.YtfccifekaokibaaGreatDoor.QT Go.Proofs.YtfccifekaokibaaGreatDoorW.PrintWords Go.Proofs.YtfccifekaokibaaGreatDoorW.PrintLast Oriel.Lx Go.Proofs.YtfccifekaokibaaGreatDoor.Lx Go.Proofs.YtfccifekaokibaaGreatDoor.Sp
theorem named_no (x : Tok) : named x = !(lex_Names.no x) := by
  unfold named lex_Names.no
  cases (x.f0 == 6) <;> cases (x.f0 == 7) <;> cases (x.f0 == 9) <;> rfl
theorem xnames_ev (s : ByteArray) (hq : s.size ≤ 1000000) : Ev (fun k => orielref05_Names.f k s) (nm s) := by
  unfold orielref05_Names.f nm
  refine Ev.bind (f := fun k t => orielref05_Names.l0 k ([] : List Tok) t 0) (xscan_ev s hq) ?_
  have h := (places_in s.data.toList.length s.data.toList 0 (Nat.le_refl _)).2
  rw [len] at h
  have := xnames_l (places 0 (scan s.data.toList)) (by omega) _ 0 [] rfl (by omega) (by simp)
  rw [List.drop_zero, List.nil_append] at this
  rw [show (fun x : Tok => !(lex_Names.no x)) = named from funext fun x => (named_no x).symm]
  exact this
theorem ofL_back (s : ByteArray) : ofL s.data.toList = s := by
  unfold ofL
  apply ByteArray.ext
  simp
theorem ofL_ext (s : ByteArray) (t : Tok) : s.extract t.f1.toNat t.f2.toNat = ofL (key s t) := (ofL_back _).symm
theorem map_back (K : List T) : ((K.map ofL).map (·.data.toList)) = K := by
  rw [List.map_map]
  refine (List.map_congr_left fun x _ => ?_).trans (List.map_id _)
  exact ofL_list x
theorem take_ev (l : List F) (i : Int) (j : Nat) (hj : j ≤ 1000000) (toks : List Tok) (K : List T) (hl : K.length ≤ 1000000) (s : T) (hK : K.Pairwise (· < ·)) (hs : s ∉ K) (r : List ByteArray) : ∀ p : Nat, p ≤ K.length → (∀ y ∈ K.drop p, s < y) →
    (∀ q, q ≤ K.length → (∀ y ∈ K.take q, y < s) → (∀ y ∈ K.drop q, s < y) → Ev (fun k => orielref16_Taken.l1 k l ((K.take q ++ s :: K.drop q).map ofL) i toks ((j + 1 : Nat) : Int)) r) →
    Ev (fun k => orielref16_Taken.l2 k l (K.map ofL) i toks (j : Int) (ofL s) (p : Int)) r := by
  intro p
  induction p with
  | zero =>
    intro hp hd h
    have := h 0 (by omega) (by simp) hd
    refine Ev.step (f := fun k => orielref16_Taken.l1 k l ((K.take 0 ++ s :: K.drop 0).map ofL) i toks ((j + 1 : Nat) : Int)) (fun k => ?_) this
    rw [orielref16_Taken.l2, if_neg (by omega)]
    simp only [Option.bind_some]
    rw [if_pos (by omega), if_pos (by omega), if_pos (by simp), if_pos (by simp), if_pos (by simp; omega), wrap_nat j (by omega)]
    simp
  | succ p ih =>
    intro hp hd h
    have hlt : p < K.length := by omega
    have hrd : rdOf ByteArray.empty (K.map ofL) (p : Int) = ofL K[p] := by
      unfold rdOf
      rw [Int.toNat_natCast, List.getD_eq_getElem?_getD, List.getElem?_map, List.getElem?_eq_getElem hlt]
      rfl
    have hw : wrap64 (((p + 1 : Nat) : Int) - 1) = (p : Int) := by unfold wrap64; omega
    by_cases hc : s < K[p]
    · have hd2 : ∀ y ∈ K.drop p, s < y := by
        rw [List.drop_eq_getElem_cons hlt]
        intro y hy
        rcases List.mem_cons.1 hy with rfl | hy
        · exact hc
        · exact hd y hy
      refine Ev.step (f := fun k => orielref16_Taken.l2 k l (K.map ofL) i toks (j : Int) (ofL s) (p : Int)) (fun k => ?_) (ih (by omega) hd2 h)
      rw [orielref16_Taken.l2, if_pos (by omega), hw, if_pos (by omega), if_pos (by rw [List.length_map]; omega), hrd, ByteArray.toList_eq, ByteArray.toList_eq, ofL_list, ofL_list, Go.Proofs.bytesLess_eq, decide_eq_true hc, if_pos rfl]
    · have hne : s ≠ K[p] := fun e => hs (by rw [e]; exact List.getElem_mem _)
      have hlt2 : K[p] < s := Decidable.byContradiction fun hn => hne (List.le_antisymm (List.not_lt.1 hn) (List.not_lt.1 hc))
      have htk : ∀ y ∈ K.take (p + 1), y < s := by
        rw [List.take_succ_eq_append_getElem hlt]
        intro y hy
        rcases List.mem_append.1 hy with hy | hy
        · refine List.lt_trans ?_ hlt2
          have hpw := hK
          rw [← List.take_append_drop p K, List.pairwise_append] at hpw
          exact hpw.2.2 y hy _ (by rw [List.drop_eq_getElem_cons hlt]; exact List.mem_cons_self)
        · rw [List.mem_singleton] at hy
          rw [hy]
          exact hlt2
      have := h (p + 1) hp htk hd
      refine Ev.step (f := fun k => orielref16_Taken.l1 k l ((K.take (p + 1) ++ s :: K.drop (p + 1)).map ofL) i toks ((j + 1 : Nat) : Int)) (fun k => ?_) this
      rw [orielref16_Taken.l2, if_pos (by omega), hw, if_pos (by omega), if_pos (by rw [List.length_map]; omega), hrd, ByteArray.toList_eq, ByteArray.toList_eq, ofL_list, ofL_list, Go.Proofs.bytesLess_eq, decide_eq_false hc, if_neg (by simp)]
      simp only [Option.bind_some]
      rw [if_pos (by omega), if_pos (by rw [List.length_map]; omega), Int.toNat_natCast, if_pos (by simp; omega), if_pos (by simp; omega), if_pos (by simp; omega), wrap_nat j (by omega)]
      simp
def Up (K : List T) : Prop := K.Pairwise (· < ·)
theorem tk_l1 (l : List F) (hl : l.length ≤ 10) (i : Nat) (hi : i < l.length) (hf : (l[i]).f1.size ≤ 10000) : ∀ (d j : Nat) (K : List T), (nm (l[i]).f1).length - j = d → j ≤ (nm (l[i]).f1).length → Up K → K.length ≤ 10001 * i + j →
    ∃ K', Up K' ∧ K'.length ≤ 10001 * (i + 1) ∧ (∀ x, x ∈ K' ↔ x ∈ K ∨ ∃ t ∈ (nm (l[i]).f1).drop j, key (l[i]).f1 t = x) ∧
      ∀ r, Ev (fun k => orielref16_Taken.l0 k l (K'.map ofL) ((i + 1 : Nat) : Int)) r → Ev (fun k => orielref16_Taken.l1 k l (K.map ofL) (i : Int) (nm (l[i]).f1) (j : Int)) r := by
  have hn := nm_in (l[i]).f1
  have hfa := file_at l i hi
  intro d
  induction d with
  | zero =>
    intro j K hd hj hK hl2
    refine ⟨K, hK, by omega, fun x => ?_, fun r h => ?_⟩
    · rw [List.drop_of_length_le (by omega)]
      simp
    · exact Ev.step (f := fun k => orielref16_Taken.l0 k l (K.map ofL) ((i + 1 : Nat) : Int)) (fun k => by rw [orielref16_Taken.l1, if_neg (by omega), wrap_nat i (by omega)]) h
  | succ d ih =>
    intro j K hd hj hK hl2
    have hlt : j < (nm (l[i]).f1).length := by omega
    have ht := tok_at (nm (l[i]).f1) j hlt
    have hin := hn.1 _ (List.getElem_mem hlt)
    have hdr := List.drop_eq_getElem_cons hlt
    have hex := ofL_ext (l[i]).f1 (nm (l[i]).f1)[j]
    generalize ht' : (nm (l[i]).f1)[j] = t at ht hin hdr hex
    have base : ∀ k, orielref16_Taken.l1 (k + 1) l (K.map ofL) (i : Int) (nm (l[i]).f1) (j : Int) = (orielref04_In.f k (K.map ofL) (ofL (key (l[i]).f1 t))).bind fun b => if b = true then orielref16_Taken.l1 k l (K.map ofL) (i : Int) (nm (l[i]).f1) ((j + 1 : Nat) : Int) else orielref16_Taken.l2 k l (K.map ofL) (i : Int) (nm (l[i]).f1) (j : Int) (ofL (key (l[i]).f1 t)) ((K.length : Nat) : Int) := by
      intro k
      rw [orielref16_Taken.l1, if_pos (by omega), if_pos (by omega), if_pos (by omega), if_pos (by omega), ht, hfa, if_pos hin.1, if_pos hin.2.1, if_pos hin.2.2, hex, wrap_nat j (by omega), List.length_map]
    have hI := in_ev (K.map ofL) (by rw [List.length_map]; omega) (ofL (key (l[i]).f1 t))
    rw [map_back, ofL_list] at hI
    by_cases hm : key (l[i]).f1 t ∈ K
    · obtain ⟨K', h1, h2, h3, h4⟩ := ih (j + 1) K (by omega) (by omega) hK (by omega)
      refine ⟨K', h1, h2, fun x => ?_, fun r h => ?_⟩
      · rw [h3, hdr]
        constructor
        · rintro (g | ⟨u, g1, g2⟩)
          · exact .inl g
          · exact .inr ⟨u, List.mem_cons_of_mem _ g1, g2⟩
        · rintro (g | ⟨u, g1, g2⟩)
          · exact .inl g
          · rcases List.mem_cons.1 g1 with rfl | g1
            · exact .inl (by rw [← g2]; exact hm)
            · exact .inr ⟨u, g1, g2⟩
      · refine Ev.step (f := fun k => (orielref04_In.f k (K.map ofL) (ofL (key (l[i]).f1 t))).bind fun b => if b = true then orielref16_Taken.l1 k l (K.map ofL) (i : Int) (nm (l[i]).f1) ((j + 1 : Nat) : Int) else orielref16_Taken.l2 k l (K.map ofL) (i : Int) (nm (l[i]).f1) (j : Int) (ofL (key (l[i]).f1 t)) ((K.length : Nat) : Int)) base ?_
        refine Ev.bind (f := fun k (b : Bool) => if b = true then orielref16_Taken.l1 k l (K.map ofL) (i : Int) (nm (l[i]).f1) ((j + 1 : Nat) : Int) else orielref16_Taken.l2 k l (K.map ofL) (i : Int) (nm (l[i]).f1) (j : Int) (ofL (key (l[i]).f1 t)) ((K.length : Nat) : Int)) hI ?_
        have hc : K.contains (key (l[i]).f1 t) = true := by simpa using hm
        simp only [hc, if_true]
        exact h4 r h
    · have hc : K.contains (key (l[i]).f1 t) = false := by rw [← Bool.not_eq_true]; simpa using hm
      -- the place
      obtain ⟨q, hq1, hq2, hq3⟩ : ∃ q, q ≤ K.length ∧ (∀ y ∈ K.take q, y < key (l[i]).f1 t) ∧ (∀ y ∈ K.drop q, key (l[i]).f1 t < y) := by
        have : ∀ p, p ≤ K.length → (∀ y ∈ K.drop p, key (l[i]).f1 t < y) → ∃ q, q ≤ K.length ∧ (∀ y ∈ K.take q, y < key (l[i]).f1 t) ∧ (∀ y ∈ K.drop q, key (l[i]).f1 t < y) := by
          intro p
          induction p with
          | zero => intro hp h; exact ⟨0, hp, by simp, h⟩
          | succ p ihp =>
            intro hp h
            have hlt : p < K.length := by omega
            by_cases hc : key (l[i]).f1 t < K[p]
            · refine ihp (by omega) ?_
              rw [List.drop_eq_getElem_cons hlt]
              intro y hy
              rcases List.mem_cons.1 hy with rfl | hy
              · exact hc
              · exact h y hy
            · refine ⟨p + 1, hp, ?_, h⟩
              have hne : key (l[i]).f1 t ≠ K[p] := fun e => hm (by rw [e]; exact List.getElem_mem _)
              have hlt2 : K[p] < key (l[i]).f1 t := Decidable.byContradiction fun hn => hne (List.le_antisymm (List.not_lt.1 hn) (List.not_lt.1 hc))
              rw [List.take_succ_eq_append_getElem hlt]
              intro y hy
              rcases List.mem_append.1 hy with hy | hy
              · refine List.lt_trans ?_ hlt2
                have hpw : K.Pairwise (· < ·) := hK
                rw [← List.take_append_drop p K, List.pairwise_append] at hpw
                exact hpw.2.2 y hy _ (by rw [List.drop_eq_getElem_cons hlt]; exact List.mem_cons_self)
              · rw [List.mem_singleton] at hy
                rw [hy]
                exact hlt2
        exact this K.length (Nat.le_refl _) (by rw [List.drop_length]; simp)
      have hu : ∀ q2, q2 ≤ K.length → (∀ y ∈ K.take q2, y < key (l[i]).f1 t) → (∀ y ∈ K.drop q2, key (l[i]).f1 t < y) → K.take q2 ++ key (l[i]).f1 t :: K.drop q2 = K.take q ++ key (l[i]).f1 t :: K.drop q := by
        intro q2 g1 g2 g3
        exact rises_eq _ _ (put_rises K _ q2 hK g2 g3) (put_rises K _ q hK hq2 hq3) fun x => by rw [put_mem, put_mem]
      have hK2 : Up (K.take q ++ key (l[i]).f1 t :: K.drop q) := put_rises K _ q hK hq2 hq3
      have hlen : (K.take q ++ key (l[i]).f1 t :: K.drop q).length = K.length + 1 := by
        rw [List.length_append, List.length_cons, List.length_take, List.length_drop]
        omega
      obtain ⟨K', h1, h2, h3, h4⟩ := ih (j + 1) _ (by omega) (by omega) hK2 (by omega)
      refine ⟨K', h1, h2, fun x => ?_, fun r h => ?_⟩
      · rw [h3, hdr, put_mem]
        constructor
        · rintro ((g | g) | ⟨u, g1, g2⟩)
          · exact .inl g
          · exact .inr ⟨t, List.mem_cons_self, g.symm⟩
          · exact .inr ⟨u, List.mem_cons_of_mem _ g1, g2⟩
        · rintro (g | ⟨u, g1, g2⟩)
          · exact .inl (.inl g)
          · rcases List.mem_cons.1 g1 with rfl | g1
            · exact .inl (.inr g2.symm)
            · exact .inr ⟨u, g1, g2⟩
      · refine Ev.step (f := fun k => (orielref04_In.f k (K.map ofL) (ofL (key (l[i]).f1 t))).bind fun b => if b = true then orielref16_Taken.l1 k l (K.map ofL) (i : Int) (nm (l[i]).f1) ((j + 1 : Nat) : Int) else orielref16_Taken.l2 k l (K.map ofL) (i : Int) (nm (l[i]).f1) (j : Int) (ofL (key (l[i]).f1 t)) ((K.length : Nat) : Int)) base ?_
        refine Ev.bind (f := fun k (b : Bool) => if b = true then orielref16_Taken.l1 k l (K.map ofL) (i : Int) (nm (l[i]).f1) ((j + 1 : Nat) : Int) else orielref16_Taken.l2 k l (K.map ofL) (i : Int) (nm (l[i]).f1) (j : Int) (ofL (key (l[i]).f1 t)) ((K.length : Nat) : Int)) hI ?_
        simp only [hc, Bool.false_eq_true, if_false]
        refine take_ev l (i : Int) j (by omega) (nm (l[i]).f1) K (by omega) (key (l[i]).f1 t) hK hm r K.length (Nat.le_refl _) (by rw [List.drop_length]; simp) ?_
        intro q2 g1 g2 g3
        rw [hu q2 g1 g2 g3]
        exact h4 r h
theorem tk_l0 (l : List F) (h : FewF l) : ∀ (d i : Nat) (K : List T), l.length - i = d → i ≤ l.length → Up K → K.length ≤ 10001 * i →
    ∃ K', Up K' ∧ (∀ x, x ∈ K' ↔ x ∈ K ∨ ∃ f ∈ l.drop i, ∃ t ∈ nm f.f1, key f.f1 t = x) ∧ Ev (fun k => orielref16_Taken.l0 k l (K.map ofL) (i : Int)) (K'.map ofL) := by
  have hl := h.1
  intro d
  induction d with
  | zero =>
    intro i K hd hi hK hb
    refine ⟨K, hK, fun x => ?_, ?_⟩
    · rw [List.drop_of_length_le (by omega)]
      simp
    · exact Ev.step (f := fun _ => some (K.map ofL)) (fun k => by rw [orielref16_Taken.l0, if_neg (by omega)]) (Ev.now _)
  | succ d ih =>
    intro i K hd hi hK hb
    have hlt : i < l.length := by omega
    have hf := h.2 _ (List.getElem_mem hlt)
    obtain ⟨K1, a1, a2, a3, a4⟩ := tk_l1 l hl i hlt hf _ 0 K rfl (by omega) hK (by omega)
    obtain ⟨K2, b1, b2, b3⟩ := ih (i + 1) K1 (by omega) (by omega) a1 a2
    refine ⟨K2, b1, fun x => ?_, ?_⟩
    · rw [b2, a3, List.drop_eq_getElem_cons hlt, List.drop_zero]
      constructor
      · rintro ((g | g) | ⟨f, g1, g2⟩)
        · exact .inl g
        · exact .inr ⟨_, List.mem_cons_self, g⟩
        · exact .inr ⟨f, List.mem_cons_of_mem _ g1, g2⟩
      · rintro (g | ⟨f, g1, g2⟩)
        · exact .inl (.inl g)
        · rcases List.mem_cons.1 g1 with rfl | g1
          · exact .inl (.inr g2)
          · exact .inr ⟨f, g1, g2⟩
    · refine Ev.step (f := fun k => (orielref05_Names.f k (l[i]).f1).bind fun t => orielref16_Taken.l1 k l (K.map ofL) (i : Int) t 0) (fun k => by rw [orielref16_Taken.l0, if_pos (by omega), if_pos (by omega), file_at l i hlt]) ?_
      exact Ev.bind (f := fun k t => orielref16_Taken.l1 k l (K.map ofL) (i : Int) t 0) (xnames_ev _ (by omega)) (a4 _ b3)
theorem keysL_up (l : List F) : Up (keysL l) := by
  have tr : ∀ a b c : List UInt8, leB a b = true → leB b c = true → leB a c = true := fun a b c h1 h2 => by simp only [leB, decide_eq_true_eq] at *; exact List.le_trans h1 h2
  have tot : ∀ a b : List UInt8, (leB a b || leB b a) = true := fun a b => by simp only [leB, Bool.or_eq_true, decide_eq_true_eq]; exact List.le_total a b
  have hp : (keysL l).Pairwise fun a b => leB a b = true := List.pairwise_mergeSort tr tot _
  have hn : (keysL l).Nodup := (List.mergeSort_perm _ _).nodup_iff.2 (ddk_nodup _)
  refine (hp.and hn).imp ?_
  rintro a b ⟨h1, h2⟩
  simp only [leB, decide_eq_true_eq] at h1
  exact Decidable.byContradiction fun hc => h2 (List.le_antisymm h1 (List.not_lt.1 hc))
/-- The document's Taken. -/
theorem xtaken_ev (l : List F) (h : FewF l) : Ev (fun k => orielref16_Taken.f k l) ((keysL l).map ofL) := by
  obtain ⟨K, h1, h2, h3⟩ := tk_l0 l h _ 0 [] rfl (by omega) List.Pairwise.nil (by simp)
  have e : K = keysL l := rises_eq _ _ h1 (keysL_up l) fun x => by
    rw [h2, keysL_mem, List.drop_zero]
    simp
  rw [e] at h3
  exact h3
/-! ### places -/
theorem pl_l1 (l : List F) (hl : l.length ≤ 10) (s : ByteArray) (i : Nat) (hi : i < l.length) (hf : (l[i]).f1.size ≤ 10000) (r : List Pl) : ∀ (d j : Nat) (out : List Pl), (nm (l[i]).f1).length - j = d → j ≤ (nm (l[i]).f1).length → out.length ≤ 10001 * i + j →
    (∀ out2, out2 = out ++ (((nm (l[i]).f1).drop j).filter (fun t => key (l[i]).f1 t == s.data.toList)).map (fun t => (⟨(i : Int), t.f1⟩ : Pl)) → out2.length ≤ 10001 * (i + 1) → Ev (fun k => orielref16_Places.l0 k s l out2 ((i + 1 : Nat) : Int)) r) →
    Ev (fun k => orielref16_Places.l1 k s l out (i : Int) (nm (l[i]).f1) (j : Int)) r := by
  have hn := nm_in (l[i]).f1
  have hfa := file_at l i hi
  intro d
  induction d with
  | zero =>
    intro j out hd hj ho h
    rw [List.drop_of_length_le (by omega)] at h
    have := h out (by simp) (by omega)
    exact Ev.step (f := fun k => orielref16_Places.l0 k s l out ((i + 1 : Nat) : Int)) (fun k => by rw [orielref16_Places.l1, if_neg (by omega), wrap_nat i (by omega)]) this
  | succ d ih =>
    intro j out hd hj ho h
    have hlt : j < (nm (l[i]).f1).length := by omega
    have ht := tok_at (nm (l[i]).f1) j hlt
    have hin := hn.1 _ (List.getElem_mem hlt)
    have hdr := List.drop_eq_getElem_cons hlt
    generalize ht' : (nm (l[i]).f1)[j] = t at ht hin hdr
    rw [hdr, List.filter_cons] at h
    have base : ∀ k, orielref16_Places.l1 (k + 1) s l out (i : Int) (nm (l[i]).f1) (j : Int) = if (key (l[i]).f1 t == s.data.toList) = true then orielref16_Places.l1 k s l (out ++ [⟨(i : Int), t.f1⟩]) (i : Int) (nm (l[i]).f1) ((j + 1 : Nat) : Int) else orielref16_Places.l1 k s l out (i : Int) (nm (l[i]).f1) ((j + 1 : Nat) : Int) := by
      intro k
      rw [orielref16_Places.l1, if_pos (by omega), if_pos (by omega), if_pos (by omega), if_pos (by omega), ht, hfa, if_pos hin.1, if_pos hin.2.1, if_pos hin.2.2, wrap_nat j (by omega), ByteArray.toList_eq, ByteArray.toList_eq, if_pos (show out.length < 8796093022208 by omega)]
      unfold key
      by_cases g : ((l[i]).f1.extract t.f1.toNat t.f2.toNat).data.toList = s.data.toList
      · rw [if_pos g, if_pos (beq_iff_eq.2 g)]
      · rw [if_neg g, if_neg (by simpa using g)]
    by_cases hm : (key (l[i]).f1 t == s.data.toList) = true
    · rw [if_pos hm] at h
      refine Ev.step (f := fun k => orielref16_Places.l1 k s l (out ++ [⟨(i : Int), t.f1⟩]) (i : Int) (nm (l[i]).f1) ((j + 1 : Nat) : Int)) (fun k => by rw [base, if_pos hm]) ?_
      refine ih (j + 1) _ (by omega) (by omega) (by simp; omega) fun out2 e he => h out2 ?_ he
      rw [e]
      simp
    · rw [if_neg hm] at h
      refine Ev.step (f := fun k => orielref16_Places.l1 k s l out (i : Int) (nm (l[i]).f1) ((j + 1 : Nat) : Int)) (fun k => by rw [base, if_neg hm]) ?_
      exact ih (j + 1) _ (by omega) (by omega) (by omega) h
theorem Gp_app (P Q : List (T × Pl)) (x : T) : Gp (P ++ Q) x = Gp P x ++ Gp Q x := by
  unfold Gp
  rw [List.filter_append, List.map_append]
theorem Gp_prs (i : Int) (s : ByteArray) (x : T) : Gp (prs i s) x = ((nm s).filter (fun t => key s t == x)).map (fun t => (⟨i, t.f1⟩ : Pl)) := by
  unfold Gp prs
  rw [List.filter_map, List.map_map]
  rfl
theorem pl_l0 (l : List F) (h : FewF l) (s : ByteArray) : ∀ (d i : Nat) (out : List Pl), l.length - i = d → i ≤ l.length → out.length ≤ 10001 * i →
    Ev (fun k => orielref16_Places.l0 k s l out (i : Int)) (out ++ Gp (spellP i (l.drop i)) s.data.toList) := by
  have hl := h.1
  intro d
  induction d with
  | zero =>
    intro i out hd hi hb
    rw [List.drop_of_length_le (by omega), show Gp (spellP i []) s.data.toList = [] from rfl, List.append_nil]
    exact Ev.step (f := fun _ => some out) (fun k => by rw [orielref16_Places.l0, if_neg (by omega)]) (Ev.now _)
  | succ d ih =>
    intro i out hd hi hb
    have hlt : i < l.length := by omega
    have hf := h.2 _ (List.getElem_mem hlt)
    refine Ev.step (f := fun k => (orielref05_Names.f k (l[i]).f1).bind fun t => orielref16_Places.l1 k s l out (i : Int) t 0) (fun k => by rw [orielref16_Places.l0, if_pos (by omega), if_pos (by omega), file_at l i hlt]) ?_
    refine Ev.bind (f := fun k t => orielref16_Places.l1 k s l out (i : Int) t 0) (xnames_ev _ (by omega)) ?_
    refine pl_l1 l hl s i hlt hf _ _ 0 out rfl (by omega) (by omega) fun out2 e he => ?_
    have := ih (i + 1) out2 (by omega) (by omega) he
    rw [List.drop_eq_getElem_cons hlt]
    unfold spellP
    rw [Gp_app, Gp_prs, ← List.append_assoc]
    rw [List.drop_zero] at e
    rw [← e]
    exact this
/-- The document's Places. -/
theorem xplaces_ev (l : List F) (h : FewF l) (s : ByteArray) : Ev (fun k => orielref16_Places.f k s l) (Gp (spellP 0 l) s.data.toList) := by
  have := pl_l0 l h s _ 0 [] rfl (by omega) (by simp)
  rw [List.drop_zero, List.nil_append] at this
  exact this
end Go.Proofs.YtfccifekaokibaaGreatDoor.Rf

