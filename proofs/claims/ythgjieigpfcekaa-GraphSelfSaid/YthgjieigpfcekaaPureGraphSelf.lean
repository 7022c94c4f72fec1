/- The law GraphSelf: a right graph is carried to itself by the map that changes nothing; families part all occurrences. No condition. -/
import Derived.Test.YthgjieigpfcekaaPureGraphRight
import Derived.Test.YthgjieigpfcekaaQGx12
namespace Go.Proofs.Ythgjieigpfcekaa.Gr
open Go.RowKit Go.Proofs.Ythgjieigpfcekaa.QG Go.Proofs.YthgjieigpfcekaaW.PrintWords Go.Proofs.YthgjieigpfcekaaW.PrintLast
theorem where_mem (p : Int → Bool) (n : Nat) (i : Int) : (whereL p (n : Int)).contains i = (decide (0 ≤ i ∧ i < (n : Int)) && p i) := by
  unfold whereL
  rw [Bool.eq_iff_iff, List.contains_iff_mem, Int.toNat_natCast, List.mem_filter, List.mem_map, Bool.and_eq_true, decide_eq_true_iff]
  constructor
  · rintro ⟨⟨j, hj, rfl⟩, hp⟩
    rw [List.mem_range] at hj
    exact ⟨⟨by omega, by omega⟩, hp⟩
  · rintro ⟨⟨h0, h1⟩, hp⟩
    exact ⟨⟨i.toNat, by rw [List.mem_range]; omega, by omega⟩, hp⟩
theorem fam_mem (E : List Int) (L : List PP) (o i : Int) (h0 : 0 ≤ o) (h1 : o < (E.length : Int)) : (famB E L o).contains i = (decide (0 ≤ i ∧ i < (E.length : Int)) && linkB L (rd E o) (rd E i)) := by
  unfold famB
  rw [if_pos ⟨h0, h1⟩, where_mem]
theorem fam_len (E : List Int) (L : List PP) (o : Int) : (famB E L o).length ≤ E.length := by
  unfold famB
  split
  · unfold whereL
    refine Nat.le_trans (where_len _ _) ?_
    omega
  · simp
theorem fam_same (E : List Int) (L : List PP) (a b : Int) (ha : 0 ≤ a ∧ a < (E.length : Int)) (hb : 0 ≤ b ∧ b < (E.length : Int)) (h : linkB L (rd E a) (rd E b) = true) : famB E L a = famB E L b := by
  unfold famB
  rw [if_pos ha, if_pos hb]
  refine whereL_congr (fun i => ?_) _
  rw [linkB_iff] at h
  rw [Bool.eq_iff_iff, linkB_iff, linkB_iff]
  exact ⟨fun k => h.symm.trans k, fun k => h.trans k⟩
theorem rightGo_at (E V : List Int) (l : List OO) : ∀ (r : List OO) (i : Int), rightGo E V l r i = true → ∀ j : Nat, j < r.length → 0 ≤ rd E (i + (j : Int)) ∧ rd E (i + (j : Int)) < (l.length : Int)
  | [], _, _, j, hj => absurd hj (Nat.not_lt_zero _)
  | o :: r, i, h, j, hj => by
    rw [rightGo] at h
    cases hb : rightI E V l i o with
    | true => rw [hb, if_pos rfl] at h; cases h
    | false =>
      rw [hb, if_neg (by simp)] at h
      match j, hj with
      | 0, _ =>
        unfold rightI at hb
        rw [Bool.or_eq_false_iff, Bool.or_eq_false_iff, Bool.not_eq_false', decB_iff] at hb
        rw [show i + ((0 : Nat) : Int) = i by omega]
        exact hb.1.1.1
      | j + 1, hj =>
        have := rightGo_at E V l r (i + 1) h j (by simpa using hj)
        rw [show i + ((j + 1 : Nat) : Int) = i + 1 + (j : Int) by omega]
        exact this
/-- The map that changes nothing. -/
def idL (n : Nat) : List Int := (List.range n).map fun (i : Nat) => (i : Int)
theorem idL_len (n : Nat) : (idL n).length = n := by simp [idL]
theorem idL_succ (n : Nat) : idL (n + 1) = idL n ++ [(n : Int)] := by unfold idL; rw [List.range_succ, List.map_append]; rfl
theorem idL_rd (n : Nat) (x : Int) (h0 : 0 ≤ x) (h1 : x < (n : Int)) : rd (idL n) x = x := by
  obtain ⟨j, rfl⟩ : ∃ j : Nat, x = (j : Int) := ⟨x.toNat, by omega⟩
  rw [rd_nat _ _ (by rw [idL_len]; omega)]
  unfold idL
  simp
theorem idL_drop (n j : Nat) (h : j < n) : (idL n).drop j = (j : Int) :: (idL n).drop (j + 1) := by
  rw [List.drop_eq_getElem_cons (by rw [idL_len]; exact h)]
  congr 1
  unfold idL
  simp
theorem idL_ok (n : Nat) (h : n ≤ 1000000) : (idL n).all okI = true := by
  rw [List.all_eq_true]
  intro x hx
  unfold idL at hx
  obtain ⟨j, hj, rfl⟩ := List.mem_map.1 hx
  rw [List.mem_range] at hj
  rw [okI_iff]
  omega
theorem id_fits (E : List Int) (n : Nat) (hE : ∀ j : Nat, j < n → 0 ≤ rd E (j : Int) ∧ rd E (j : Int) < (n : Int)) : ∀ (d j : Nat) (S : List Int), n - j = d → j ≤ n → (∀ s ∈ S, s < (j : Int)) → fitGo E (idL n) ((idL n).drop j) (j : Int) S = true := by
  intro d
  induction d with
  | zero =>
    intro j S hd hj _
    rw [List.drop_of_length_le (by rw [idL_len]; omega)]
    rfl
  | succ d ih =>
    intro j S hd hj hS
    have hlt : j < n := by omega
    rw [idL_drop n j hlt, fitGo]
    obtain ⟨e0, e1⟩ := hE j hlt
    have hb : fitBad E (idL n) (j : Int) (j : Int) S = false := by
      unfold fitBad inB
      have hc : S.contains (j : Int) = false := by
        rw [← Bool.not_eq_true, List.contains_iff_mem]
        intro hm
        have := hS _ hm
        omega
      rw [idL_rd n _ e0 e1, hc, idL_len, decide_eq_true e0, decide_eq_true e1, decide_eq_false (show ¬ (j : Int) < -1 by omega), decide_eq_false (show ¬ rd E (j : Int) < 0 by omega)]
      simp
    rw [hb, if_neg (by simp)]
    have := ih (j + 1) ((j : Int) :: S) (by omega) (by omega) (fun s hs => by
      rcases List.mem_cons.1 hs with rfl | hs
      · omega
      · have := hS s hs; omega)
    exact this
theorem id_most (n : Nat) : ∀ (d j : Nat), n - j = d → j ≤ n → mostF ((idL n).drop j) ((j : Int) - 1) = (n : Int) - 1 := by
  intro d
  induction d with
  | zero =>
    intro j hd hj
    obtain rfl : j = n := by omega
    rw [List.drop_of_length_le (by rw [idL_len]; omega)]
    rfl
  | succ d ih =>
    intro j hd hj
    rw [idL_drop n j (by omega), mostF, if_pos (by omega), show max ((j : Int) - 1) (j : Int) = ((j + 1 : Nat) : Int) - 1 by omega]
    exact ih (j + 1) (by omega) (by omega)
theorem id_toF (E : List Int) (n : Nat) (hE : ∀ j : Nat, j < n → 0 ≤ rd E (j : Int) ∧ rd E (j : Int) < (n : Int)) : ∀ (d j : Nat) (F : Int → Option Int), n - j = d → j ≤ n → ∀ i : Int, toF E (idL n) ((idL n).drop j) (j : Int) F i = if (j : Int) ≤ i ∧ i < (n : Int) then some (rd E i) else F i := by
  intro d
  induction d with
  | zero =>
    intro j F hd hj i
    rw [List.drop_of_length_le (by rw [idL_len]; omega), if_neg (by omega)]
    rfl
  | succ d ih =>
    intro j F hd hj i
    have hlt : j < n := by omega
    obtain ⟨e0, e1⟩ := hE j hlt
    rw [idL_drop n j hlt, toF, if_pos (by omega), idL_rd n _ e0 e1]
    have := ih (j + 1) (mput F (j : Int) (rd E (j : Int))) (by omega) (by omega) i
    refine Eq.trans this ?_
    by_cases h1 : ((j + 1 : Nat) : Int) ≤ i ∧ i < (n : Int)
    · rw [if_pos h1, if_pos (by omega)]
    · rw [if_neg h1]
      unfold mput
      by_cases h2 : i = (j : Int)
      · subst h2
        rw [if_pos rfl, if_pos (by omega)]
      · rw [if_neg h2, if_neg (by omega)]
theorem self_car (E : List Int) (L : List PP) (hn : E.length ≤ 1000000) (hE : ∀ j : Nat, j < E.length → 0 ≤ rd E (j : Int) ∧ rd E (j : Int) < (E.length : Int)) (hL : ∀ p ∈ L, (0 ≤ p.f0 ∧ p.f0 < (E.length : Int)) ∧ 0 ≤ p.f1 ∧ p.f1 < (E.length : Int)) (hlk : lkL L = L) :
    carB E L E L (idL E.length) = true := by
  have hfit := id_fits E E.length hE E.length 0 [] (by omega) (by omega) (fun s hs => by cases hs)
  rw [List.drop_zero] at hfit
  have hmost := id_most E.length E.length 0 (by omega) (by omega)
  rw [List.drop_zero] at hmost
  have hmost : mostF (idL E.length) (-1) = (E.length : Int) - 1 := hmost
  have hany : L.any (fitP (idL E.length)) = false := by
    rw [← Bool.not_eq_true, List.any_eq_true]
    rintro ⟨p, hp, hf⟩
    obtain ⟨⟨a0, a1⟩, b0, b1⟩ := hL p hp
    unfold fitP inB at hf
    rw [idL_rd _ _ a0 a1, idL_rd _ _ b0 b1, idL_len] at hf
    simp only [decide_eq_true a0, decide_eq_true a1, decide_eq_true b0, decide_eq_true b1, decide_eq_false (show ¬ p.f0 < 0 by omega), decide_eq_false (show ¬ p.f1 < 0 by omega)] at hf
    cases hf
  have hedge : edgeL (toF E (idL E.length) (idL E.length) 0 fun _ => none) E.length = E := by
    unfold edgeL
    apply List.ext_getElem
    · rw [List.length_map, List.length_range]
    · intro j h1 h2
      have ht := id_toF E E.length hE E.length 0 (fun _ => none) (by omega) (by omega) (j : Int)
      rw [List.drop_zero, if_pos (by omega)] at ht
      rw [List.getElem_map, List.getElem_range]
      have ht : toF E (idL E.length) (idL E.length) 0 (fun _ => none) (j : Int) = some (rd E (j : Int)) := ht
      rw [ht, rd_nat _ _ h2]
      rfl
  have hcar : carL (idL E.length) L = L := by
    unfold carL
    have : ∀ p ∈ L, (⟨rd (idL E.length) p.f0, rd (idL E.length) p.f1⟩ : PP) = p := by
      intro p hp
      obtain ⟨⟨a0, a1⟩, b0, b1⟩ := hL p hp
      rw [idL_rd _ _ a0 a1, idL_rd _ _ b0 b1]
    rw [List.map_congr_left this, List.map_id']
  unfold carB carV
  rw [if_pos ⟨idL_len _, hfit, hany, by omega⟩, hmost, show ((E.length : Int) - 1 + 1).toNat = E.length by omega, hedge, hcar, hlk]
  simp only [decide_true, Nat.le_refl, Bool.true_and]
  rw [edgeGo_iff]
  intro j _ _
  exact .inr rfl
theorem place_of (x : Int) (n : Nat) (h0 : 0 < n) (hn : n ≤ 1000000) : 0 ≤ Int.tmod (wrap64 ((Int.tmod x (n : Int)) + (n : Int))) (n : Int) ∧ Int.tmod (wrap64 ((Int.tmod x (n : Int)) + (n : Int))) (n : Int) < (n : Int) := by
  have h1 : -(n : Int) < Int.tmod x (n : Int) := Int.lt_tmod_of_pos x (by omega)
  have h2 : Int.tmod x (n : Int) < (n : Int) := Int.tmod_lt_of_pos x (by omega)
  have hw : wrap64 (Int.tmod x (n : Int) + (n : Int)) = Int.tmod x (n : Int) + (n : Int) := by unfold wrap64; omega
  rw [hw]
  exact ⟨Int.tmod_nonneg _ (by omega), Int.tmod_lt_of_pos _ (by omega)⟩
end Go.Proofs.Ythgjieigpfcekaa.Gr
namespace Go.Proofs.Ythgjieigpfcekaa.Pure
open Go.RowKit Go.Proofs.Ythgjieigpfcekaa.QG Go.Proofs.YthgjieigpfcekaaW.PrintWords Go.Proofs.YthgjieigpfcekaaW.PrintLast Go.Proofs.Ythgjieigpfcekaa.Gr
theorem self_end (E : List Int) (L : List PP) (V : List Int) (hL : L.length ≤ 1000) (hn : E.length ≤ 1000) (hc : carB E L E L (idL E.length) = true) (b : Int) (_hb : 0 ≤ b ∧ b < (E.length : Int)) (x y : List Int) (hx : x.length ≤ 1000) (hy : y.length ≤ 1000) (hyb : y.contains b = true) (hxy : ∀ o ∈ x, y.contains o = x.contains b) : ∀ d n : Nat, x.length - n = d → n ≤ x.length →
    Ev (fun k => oriellaw15_GraphSelf.l1 k b (idL E.length) x y x (x.length : Int) (n : Int) E L V) true := by
  intro d
  induction d with
  | zero =>
    intro n hd hn'
    refine Ev.step (f := fun k => (graph_Carries.f k E L V E L V (idL E.length)).bind fun t210 => (if t210 = true then ((oriellaw15_alive.f k).bind fun t211 => (some t211)) else (some false))) (fun k => by rw [oriellaw15_GraphSelf.l1, if_neg (by omega)]) ?_
    have := carries_ev E L V E L V (idL E.length) (by omega) (idL_ok _ (by omega)) (by rw [idL_len]; omega)
    rw [hc] at this
    refine Ev.bind this ?_
    simp only [if_true]
    exact Ev.bind (f := fun _ t => some t) alive15 (Ev.now _)
  | succ d ih =>
    intro n hd hn'
    have hlt : n < x.length := by omega
    have ihn := ih (n + 1) (by omega) (by omega)
    refine Ev.step (f := fun k => (orielref12_In.f k y b).bind fun t213 => (if t213 = true then ((orielref12_In.f k y (rd x (n : Int))).bind fun t214 => ((orielref12_In.f k x b).bind fun t215 => (if (t214 != t215) = true then (some false) else (oriellaw15_GraphSelf.l1 k b (idL E.length) x y x (x.length : Int) (wrap64 ((n : Int) + 1)) E L V)))) else (some false))) (fun k => by rw [oriellaw15_GraphSelf.l1, if_pos (by omega), if_pos (by omega), if_pos (by omega)]) ?_
    have i1 := in_ev y (by omega) b
    rw [hyb] at i1
    refine Ev.bind i1 ?_
    simp only [if_true]
    have i2 := in_ev y (by omega) (rd x (n : Int))
    rw [hxy _ (by rw [rd_nat _ _ hlt]; exact List.getElem_mem hlt)] at i2
    refine Ev.bind i2 ?_
    refine Ev.bind (in_ev x (by omega) b) ?_
    simp only [bne_self_eq_false, if_neg Bool.false_ne_true, wrap_nat n (by omega)]
    exact ihn
theorem self_loop (E : List Int) (L : List PP) (V : List Int) (l : List OO) (a b : Int) (hL : L.length ≤ 1000) (hn : E.length ≤ 1000) (hE : E.length = l.length) (hl0 : 0 < l.length) (hok : E.all okI = true) (hokL : okL L = true) (hc : carB E L E L (idL E.length) = true) : ∀ d j : Nat, l.length - j = d → j ≤ l.length →
    Ev (fun k => oriellaw15_GraphSelf.l0 k l a b (idL j) (l.length : Int) (j : Int) E L V) true := by
  intro d
  induction d with
  | zero =>
    intro j hd hj
    obtain rfl : j = l.length := by omega
    obtain ⟨a0, a1⟩ := place_of a l.length hl0 (by omega)
    obtain ⟨b0, b1⟩ := place_of b l.length hl0 (by omega)
    generalize ha : Int.tmod (wrap64 ((Int.tmod a (l.length : Int)) + (l.length : Int))) (l.length : Int) = x at *
    generalize hb : Int.tmod (wrap64 ((Int.tmod b (l.length : Int)) + (l.length : Int))) (l.length : Int) = y at *
    refine Ev.step (f := fun k => (graph_Family.f k E L V x).bind fun t199 => ((graph_Family.f k E L V y).bind fun t202 => ((orielref12_In.f k t199 x).bind fun t205 => (if t205 = true then ((orielref12_In.f k t199 y).bind fun t206 => ((orielref12_In.f k t202 x).bind fun t207 => (if (t206 != t207) = true then (oriellaw15_GraphSelf.j2 k y (idL l.length) t199 t202 true E L V) else ((orielref12_In.f k t199 y).bind fun t208 => (if t208 = true then ((oriellaw01_Ints.f k t199 t202).bind fun t209 => (oriellaw15_GraphSelf.j2 k y (idL l.length) t199 t202 (!t209) E L V)) else (oriellaw15_GraphSelf.j2 k y (idL l.length) t199 t202 false E L V)))))) else (oriellaw15_GraphSelf.j2 k y (idL l.length) t199 t202 true E L V))))) (fun k => by rw [oriellaw15_GraphSelf.l0, if_neg (by omega), if_neg (by omega), ha, hb]) ?_
    rw [← hE] at a1 b1 ⊢
    have fx := fam_mem E L x
    have fy := fam_mem E L y
    have lx := fam_len E L x
    have ly := fam_len E L y
    have hin : ∀ i : Int, 0 ≤ i ∧ i < (E.length : Int) → ∀ o : Int, 0 ≤ o → o < (E.length : Int) → (famB E L o).contains i = linkB L (rd E o) (rd E i) := fun i hi o h0 h1 => by rw [fam_mem E L o i h0 h1, decide_eq_true hi, Bool.true_and]
    refine Ev.bind (family_ev E L V (by omega) (by omega) hok hokL x) ?_
    refine Ev.bind (family_ev E L V (by omega) (by omega) hok hokL y) ?_
    have i1 := in_ev (famB E L x) (by omega) x
    rw [hin x ⟨a0, a1⟩ x a0 a1, linkB_iff.2 .refl] at i1
    refine Ev.bind i1 ?_
    simp only [if_true]
    have i2 := in_ev (famB E L x) (by omega) y
    rw [hin y ⟨b0, b1⟩ x a0 a1] at i2
    have i3 := in_ev (famB E L y) (by omega) x
    rw [hin x ⟨a0, a1⟩ y b0 b1, linkB_symm] at i3
    refine Ev.bind i2 (Ev.bind i3 ?_)
    simp only [bne_self_eq_false, if_neg Bool.false_ne_true]
    refine Ev.bind i2 ?_
    have last := self_end E L V hL hn hc y ⟨b0, b1⟩ (famB E L x) (famB E L y) (by omega) (by omega) (by rw [hin y ⟨b0, b1⟩ y b0 b1]; exact linkB_iff.2 .refl) (fun o ho => by
      have h1 := List.contains_iff_mem.2 ho
      rw [fx o a0 a1, Bool.and_eq_true, decide_eq_true_iff] at h1
      rw [hin o h1.1 y b0 b1, hin y ⟨b0, b1⟩ x a0 a1, Bool.eq_iff_iff, linkB_iff, linkB_iff]
      have hc1 := linkB_iff.1 h1.2
      exact ⟨fun k => hc1.trans k.symm, fun k => k.symm.trans hc1⟩) (famB E L x).length 0 (by omega) (by omega)
    have lastj : Ev (fun k => oriellaw15_GraphSelf.j2 k y (idL E.length) (famB E L x) (famB E L y) false E L V) true := Ev.step (f := fun k => oriellaw15_GraphSelf.l1 k y (idL E.length) (famB E L x) (famB E L y) (famB E L x) ((famB E L x).length : Int) ((0 : Nat) : Int) E L V) (fun k => by rw [oriellaw15_GraphSelf.j2, if_neg (by simp)]; rfl) last
    cases hxy : linkB L (rd E x) (rd E y) with
    | false =>
      simp only [if_neg Bool.false_ne_true]
      exact lastj
    | true =>
      simp only [if_true]
      have e := fam_same E L x y ⟨a0, a1⟩ ⟨b0, b1⟩ hxy
      refine Ev.bind (ints_ev (famB E L x) (famB E L y) (by omega)) ?_
      rw [decide_eq_true e]
      exact lastj
  | succ d ih =>
    intro j hd hj
    have ihn := ih (j + 1) (by omega) (by omega)
    rw [idL_succ] at ihn
    exact Ev.step (f := fun k => oriellaw15_GraphSelf.l0 k l a b (idL j ++ [(j : Int)]) (l.length : Int) ((j + 1 : Nat) : Int) E L V) (fun k => by rw [oriellaw15_GraphSelf.l0, if_pos (by omega), if_pos (by rw [idL_len]; omega), wrap_nat j (by omega)]) ihn
theorem GraphSelf (g : GG) (l : List OO) (a b : Int) (hg : (∀ x ∈ g.f0, Op.wf x) ∧ (∀ p ∈ g.f1, Op.wf p.f0 ∧ Op.wf p.f1) ∧ ∀ x ∈ g.f2, Op.wf x) (_ : ∀ o ∈ l, Op.wf o.f0 ∧ Op.wf o.f1 ∧ Op.wf o.f2 ∧ Op.wf o.f3 ∧ True) (_ : Op.wf a) (_ : Op.wf b) :
    ∃ k, oriellaw15_GraphSelf.f k g.f0 g.f1 g.f2 l a b = some true := by
  obtain ⟨E, L, V⟩ := g
  obtain ⟨h0, h1, _⟩ := hg
  dsimp only at h0 h1 ⊢
  refine Ev.rounds ?_
  have skip : Ev (fun k => oriellaw15_GraphSelf.j0 k l a b true E L V) true := Ev.step (f := fun k => (oriellaw15_alive.f k).bind fun t => some t) (fun k => by rw [oriellaw15_GraphSelf.j0, if_pos rfl]) (Ev.bind (f := fun _ t => some t) alive15 (Ev.now _))
  unfold oriellaw15_GraphSelf.f
  simp only [few_f, Option.bind_some]
  by_cases hfew : E.length ≤ 60 ∧ V.length ≤ 60 ∧ L.length ≤ 40
  · obtain ⟨k0, _, k2⟩ := hfew
    simp only [decide_eq_true k0, decide_eq_true ‹V.length ≤ 60›, decide_eq_true k2, Bool.and_true, if_true]
    by_cases hl : (l.length : Int) > 60
    · simp only [if_pos hl]
      exact skip
    · simp only [if_neg hl, right_f _ E L V l (by omega), Option.bind_some]
      cases hr : rightB E L V l with
      | false =>
        simp only [if_neg Bool.false_ne_true]
        exact skip
      | true =>
        simp only [if_true]
        by_cases hz : l.length = 0
        · rw [show ((l.length : Int) == 0) = true by rw [hz]; rfl]
          exact skip
        · rw [show ((l.length : Int) == 0) = false from beq_eq_false_iff_ne.2 (by omega)]
          unfold rightB at hr
          rw [Bool.and_eq_true, Bool.and_eq_true, Bool.and_eq_true, decide_eq_true_iff, eqL_iff, rightPs_iff] at hr
          obtain ⟨⟨e0, e1⟩, r0, r1, r2⟩ := hr
          have hE : ∀ j : Nat, j < E.length → 0 ≤ rd E (j : Int) ∧ rd E (j : Int) < (E.length : Int) := by
            intro j hj
            have := rightGo_at E V l l 0 r0 j (by omega)
            rw [Int.zero_add, ← e0] at this
            exact this
          have hLk : ∀ p ∈ L, (0 ≤ p.f0 ∧ p.f0 < (E.length : Int)) ∧ 0 ≤ p.f1 ∧ p.f1 < (E.length : Int) := by
            intro p hp
            have := (rightP_iff l p).1 (r1 p hp)
            rw [e0]
            exact ⟨this.1.1, this.2.1⟩
          have hc := self_car E L (by omega) hE hLk r2.symm
          exact Ev.step (f := fun k => oriellaw15_GraphSelf.l0 k l a b (idL 0) (l.length : Int) ((0 : Nat) : Int) E L V) (fun k => by rw [oriellaw15_GraphSelf.j0, if_neg (by simp)]; rfl) (self_loop E L V l a b (by omega) (by omega) e0 (by omega) (all_ok h0) (all_okL h1) hc l.length 0 (by omega) (by omega))
  · have hf : (decide (E.length ≤ 60) && (decide (V.length ≤ 60) && decide (L.length ≤ 40))) = false := by
      rw [← Bool.not_eq_true]
      simp only [Bool.and_eq_true, decide_eq_true_eq]
      exact hfew
    simp only [hf, if_neg Bool.false_ne_true]
    exact skip
end Go.Proofs.Ythgjieigpfcekaa.Pure
