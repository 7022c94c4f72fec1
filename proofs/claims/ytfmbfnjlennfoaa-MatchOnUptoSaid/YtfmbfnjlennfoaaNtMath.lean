/- Environments and lists of bindings: what a key is bound to, which keys, and a match, told alike. -/
import Derived.Test.YtfmbfnjlennfoaaQNx21
namespace Go.Proofs.Ytfmbfnjlennfoaa.Nt
open Go.RowKit Go.Proofs.Ytfmbfnjlennfoaa.QN Go.Proofs.YtfmbfnjlennfoaaW.PrintWords Go.Proofs.YtfmbfnjlennfoaaW.PrintLast
abbrev BB := S33
abbrev PP := S42
def keyB (b : BB) : EKey := (b.f0, b.f1)
/-- The last binding of a key. -/
def fnd : List BB → EKey → Option BB
  | [], _ => none
  | b :: r, k => match fnd r k with
    | some x => some x
    | none => if keyB b = k then some b else none
def itemB (b : BB) : Int × Int × En × En := (b.f2, b.f3, mkL .nil b.f4, mkL .nil b.f5)
theorem mkB_eq (U : En) (b : BB) : mkB U b = .node U b.f0 b.f1 b.f2 b.f3 (mkL .nil b.f4) (mkL .nil b.f5) := by
  obtain ⟨_, _, _, _, _, _⟩ := b
  simp only [mkB]
theorem mkL_cons (U : En) (b : BB) (r : List BB) : mkL U (b :: r) = mkL (mkB U b) r := by simp only [mkL]
theorem mkL_nil (U : En) : mkL U [] = U := by simp only [mkL]
theorem findE_mk (k : EKey) : ∀ (l : List BB) (U : En), findE (mkL U l) k = match fnd l k with
    | some b => some (itemB b)
    | none => findE U k
  | [], U => by rw [mkL_nil]; rfl
  | b :: r, U => by
    rw [mkL_cons, findE_mk k r, fnd]
    cases fnd r k with
    | some x => rfl
    | none =>
      dsimp only
      rw [mkB_eq, findE_node]
      by_cases h : keyB b = k
      · rw [if_pos h, if_pos (show (b.f0, b.f1) = k from h)]
        rfl
      · rw [if_neg h, if_neg (show ¬ (b.f0, b.f1) = k from h)]
theorem findE_mkNil (l : List BB) (k : EKey) : findE (mkL .nil l) k = (fnd l k).map itemB := by
  rw [findE_mk]
  cases fnd l k <;> rfl
theorem fnd_key : ∀ {l : List BB} {k : EKey} {x : BB}, fnd l k = some x → keyB x = k ∧ x ∈ l
  | [], _, _, h => by cases h
  | b :: r, k, x, h => by
    rw [fnd] at h
    cases hf : fnd r k with
    | some y =>
      rw [hf] at h
      obtain rfl := Option.some.inj h
      exact ⟨(fnd_key hf).1, List.mem_cons_of_mem _ (fnd_key hf).2⟩
    | none =>
      rw [hf] at h
      dsimp only at h
      by_cases hb : keyB b = k
      · rw [if_pos hb] at h
        obtain rfl := Option.some.inj h
        exact ⟨hb, List.mem_cons_self⟩
      · rw [if_neg hb] at h
        cases h
theorem fnd_none : ∀ {l : List BB} {k : EKey}, fnd l k = none ↔ ∀ b ∈ l, keyB b ≠ k
  | [], k => ⟨fun _ b hb => (by cases hb), fun _ => rfl⟩
  | b :: r, k => by
    rw [fnd]
    constructor
    · intro h
      cases hf : fnd r k with
      | some y => rw [hf] at h; cases h
      | none =>
        rw [hf] at h
        dsimp only at h
        intro x hx
        rcases List.mem_cons.1 hx with rfl | hx
        · intro e
          rw [if_pos e] at h
          cases h
        · exact fnd_none.1 hf x hx
    · intro h
      rw [fnd_none.2 (fun x hx => h x (List.mem_cons_of_mem _ hx))]
      dsimp only
      rw [if_neg (h b List.mem_cons_self)]
/-- The bindings to which keys are bound, in order. -/
def visL : List BB → List BB
  | [] => []
  | b :: r => if (fnd r (keyB b)).isSome = true then visL r else b :: visL r
theorem visL_sub : ∀ {l : List BB} {b : BB}, b ∈ visL l → b ∈ l
  | [], b, h => by cases h
  | a :: r, b, h => by
    rw [visL] at h
    split at h
    · exact List.mem_cons_of_mem _ (visL_sub h)
    · rcases List.mem_cons.1 h with rfl | h
      · exact List.mem_cons_self
      · exact List.mem_cons_of_mem _ (visL_sub h)
theorem visL_fnd : ∀ {l : List BB} {b : BB}, b ∈ visL l → fnd l (keyB b) = some b
  | [], b, h => by cases h
  | a :: r, b, h => by
    rw [visL] at h
    rw [fnd]
    split at h
    · rw [visL_fnd h]
    · rename_i hn
      rcases List.mem_cons.1 h with rfl | h
      · cases hf : fnd r (keyB b) with
        | some y => rw [hf] at hn; exact absurd rfl hn
        | none => dsimp only; rw [if_pos rfl]
      · rw [visL_fnd h]
theorem fnd_vis : ∀ {l : List BB} {k : EKey} {x : BB}, fnd l k = some x → x ∈ visL l
  | [], _, _, h => by cases h
  | b :: r, k, x, h => by
    rw [fnd] at h
    rw [visL]
    cases hf : fnd r k with
    | some y =>
      rw [hf] at h
      obtain rfl := Option.some.inj h
      have := fnd_vis hf
      split
      · exact this
      · exact List.mem_cons_of_mem _ this
    | none =>
      rw [hf] at h
      dsimp only at h
      by_cases hb : keyB b = k
      · rw [if_pos hb] at h
        obtain rfl := Option.some.inj h
        rw [if_neg (by rw [hb, hf]; simp)]
        exact List.mem_cons_self
      · rw [if_neg hb] at h
        cases h
theorem memK_iff {k : EKey} {S : List EKey} : memK k S = true ↔ k ∈ S := by
  unfold memK
  rw [List.any_eq_true]
  constructor
  · rintro ⟨x, hx, h⟩
    rw [← of_decide_eq_true h]
    exact hx
  · intro h
    exact ⟨k, h, decide_eq_true rfl⟩
theorem visR_congr : ∀ (E : En) (S S' : List EKey), (∀ k, memK k S = memK k S') → visR E S = visR E S'
  | .nil, _, _, _ => rfl
  | .node up sp nm dl via pa pm, S, S', h => by
    rw [visR_node, visR_node, h, visR_congr up ((sp, nm) :: S) ((sp, nm) :: S') (fun k => by rw [memK_cons, memK_cons, h])]
/-- The same, those left out that were seen. -/
def visS : List BB → List EKey → List BB
  | [], _ => []
  | b :: r, S => if memK (keyB b) S = true ∨ (fnd r (keyB b)).isSome = true then visS r S else b :: visS r S
theorem visS_nil : ∀ l : List BB, visS l [] = visL l
  | [] => rfl
  | b :: r => by
    rw [visS, visL, visS_nil r]
    have h : memK (keyB b) [] = false := rfl
    rw [h]
    simp
theorem keys_mk : ∀ (l : List BB) (U : En) (S : List EKey), (visR (mkL U l) S).map En.key = ((visS l S).map keyB).reverse ++ (visR U (l.map keyB ++ S)).map En.key
  | [], U, S => by rw [mkL_nil]; rfl
  | b :: r, U, S => by
    rw [mkL_cons, keys_mk r (mkB U b) S, mkB_eq, visR_node]
    have hm : memK (b.f0, b.f1) (r.map keyB ++ S) = (memK (keyB b) S || (fnd r (keyB b)).isSome) := by
      rw [Bool.eq_iff_iff, Bool.or_eq_true, memK_iff, memK_iff, List.mem_append, or_comm]
      refine or_congr Iff.rfl ?_
      rw [List.mem_map]
      constructor
      · rintro ⟨x, hx, he⟩
        cases hf : fnd r (keyB b) with
        | some y => rfl
        | none => exact absurd he (fnd_none.1 hf x hx)
      · intro h
        obtain ⟨y, hy⟩ := Option.isSome_iff_exists.1 h
        exact ⟨y, (fnd_key hy).2, (fnd_key hy).1⟩
    rw [hm, visS]
    have hk : visR U ((b.f0, b.f1) :: (r.map keyB ++ S)) = visR U ((b :: r).map keyB ++ S) := rfl
    rw [hk, List.map_append]
    by_cases hc : memK (keyB b) S = true ∨ (fnd r (keyB b)).isSome = true
    · rw [if_pos hc, if_pos (by rcases hc with h | h <;> simp [h])]
      simp
    · rw [if_neg hc, if_neg (by intro h; exact hc (Bool.or_eq_true _ _ ▸ h))]
      rw [show (b :: visS r S).map keyB = keyB b :: (visS r S).map keyB from rfl, List.reverse_cons, List.append_assoc]
      rfl
theorem keysE_mk (l : List BB) : keysE (mkL .nil l) = (visL l).map keyB := by
  unfold keysE visE
  rw [List.map_reverse, keys_mk l .nil [], visS_nil]
  have : visR .nil (l.map keyB ++ []) = [] := rfl
  rw [this, List.map_nil, List.append_nil, List.reverse_reverse]
theorem len_mk : ∀ (l : List BB) (U : En), (mkL U l).len = U.len + l.length
  | [], U => by rw [mkL_nil]; rfl
  | b :: r, U => by
    rw [mkL_cons, len_mk r, mkB_eq, List.length_cons]
    show U.len + 1 + r.length = _
    omega
mutual
def okB : BB → Prop
  | ⟨sp, nm, _, _, pa, pm⟩ => okK (sp, nm) ∧ okLB pa ∧ okLB pm
def okLB : List BB → Prop
  | [] => True
  | b :: r => okB b ∧ okLB r
end
theorem okLB_mem {b : BB} : ∀ {l : List BB}, okLB l → b ∈ l → okB b
  | [], _, h => by cases h
  | a :: r, ho, h => by
    simp only [okLB] at ho
    rcases List.mem_cons.1 h with rfl | h
    · exact ho.1
    · exact okLB_mem ho.2 h
mutual
theorem okB_mk : ∀ (b : BB) (U : En), okB b → U.ok → (mkB U b).ok
  | ⟨sp, nm, dl, via, pa, pm⟩, U, h, hU => by
    simp only [okB] at h
    simp only [mkB]
    exact ⟨h.1, hU, okL_mk pa .nil h.2.1 trivial, okL_mk pm .nil h.2.2 trivial⟩
theorem okL_mk : ∀ (l : List BB) (U : En), okLB l → U.ok → (mkL U l).ok
  | [], U, _, hU => by simp only [mkL]; exact hU
  | b :: r, U, h, hU => by
    simp only [okLB] at h
    simp only [mkL]
    exact okL_mk r (mkB U b) h.2 (okB_mk b U h.1 hU)
end
/-! #### a match, of lists -/
def mBL (f : List BB → List BB → Option (List PP × Option BB)) (H : List BB) : List BB → Option (List PP × Option BB)
  | [] => some ([], none)
  | b :: r => match fnd H (keyB b) with
    | none => some ([], some b)
    | some h => if b.f0 = 4 then
        (match f b.f4 h.f4 with
        | none => none
        | some (l, some m) => some (pairIf b.f2 h.f2 ++ l, some m)
        | some (l, none) => (mBL f H r).bind fun u => some ((pairIf b.f2 h.f2 ++ l) ++ u.1, u.2))
      else (mBL f H r).bind fun u => some (pairIf b.f2 h.f2 ++ u.1, u.2)
def mB : Nat → List BB → List BB → Option (List PP × Option BB)
  | 0, _, _ => none
  | k + 1, s, h => mBL (mB k) h (visL s)
def told (x : List PP × Option BB) : List PP × Option EKey := (x.1, x.2.map keyB)
theorem mLoop_mk (k : Nat) (s H : List BB) (ih : ∀ b ∈ s, ∀ x : BB, ∀ r, mB k b.f4 x.f4 = some r → matchF k (mkL .nil b.f4) (mkL .nil x.f4) = some (told r)) : ∀ (m : List BB) (res : List PP × Option BB), (∀ b ∈ m, b ∈ visL s) → mBL (mB k) H m = some res → mLoop (matchF k) (mkL .nil s) (mkL .nil H) (m.map keyB) = some (told res)
  | [], res, _, h => by
    obtain rfl := Option.some.inj h
    rfl
  | b :: r, res, hm, h => by
    rw [List.map_cons, mLoop, findE_mkNil, findE_mkNil, visL_fnd (hm b List.mem_cons_self)]
    rw [mBL] at h
    cases hf : fnd H (keyB b) with
    | none =>
      rw [hf] at h
      obtain rfl := Option.some.inj h
      rfl
    | some x =>
      rw [hf] at h
      dsimp only [Option.map_some] at h ⊢
      have hr := mLoop_mk k s H ih r
      have hms : ∀ y ∈ r, y ∈ visL s := fun y hy => hm y (List.mem_cons_of_mem _ hy)
      by_cases h4 : b.f0 = 4
      · rw [if_pos h4] at h
        rw [if_pos (show (keyB b).1 = 4 from h4)]
        show (match matchF k (mkL .nil b.f4) (mkL .nil x.f4) with
          | none => none
          | some (l, some m) => some (pairIf b.f2 x.f2 ++ l, some m)
          | some (l, none) => (mLoop (matchF k) (mkL .nil s) (mkL .nil H) (r.map keyB)).bind fun u => some ((pairIf b.f2 x.f2 ++ l) ++ u.1, u.2)) = some (told res)
        cases hg : mB k b.f4 x.f4 with
        | none => rw [hg] at h; cases h
        | some y =>
          rw [ih b (visL_sub (hm b List.mem_cons_self)) x y hg]
          rw [hg] at h
          obtain ⟨l, m⟩ := y
          cases m with
          | some m =>
            obtain rfl := Option.some.inj h
            rfl
          | none =>
            dsimp only at h
            obtain ⟨u, hu, h⟩ := Option.bind_eq_some_iff.1 h
            obtain rfl := Option.some.inj h
            show (mLoop (matchF k) (mkL .nil s) (mkL .nil H) (r.map keyB)).bind _ = _
            rw [hr u hms hu]
            rfl
      · rw [if_neg h4] at h
        rw [if_neg (show ¬ (keyB b).1 = 4 from h4)]
        obtain ⟨u, hu, h⟩ := Option.bind_eq_some_iff.1 h
        obtain rfl := Option.some.inj h
        rw [hr u hms hu]
        rfl
theorem match_mk (k : Nat) : ∀ (s H : List BB) (res : List PP × Option BB), szL s ≤ 4000000 → mB k s H = some res → matchF k (mkL .nil s) (mkL .nil H) = some (told res) := by
  induction k with
  | zero => intro s H res _ h; cases h
  | succ k ih =>
    intro s H res hs h
    rw [mB] at h
    rw [matchF, if_pos (by rw [len_mk]; have := szL_len s; show 0 + s.length ≤ _; omega), keysE_mk]
    refine mLoop_mk k s H (fun b hb x r hr => ih b.f4 x.f4 r ?_ hr) (visL s) res (fun _ h => h) h
    have h1 := szB_le hb
    obtain ⟨_, _, _, _, pa, pm⟩ := b
    simp only [szB] at h1
    show szL pa ≤ _
    omega
theorem szB_parts {b : BB} {l : List BB} (h : b ∈ l) : szL b.f4 < szL l := by
  have h1 := szB_le h
  obtain ⟨_, _, _, _, pa, pm⟩ := b
  simp only [szB] at h1
  show szL pa < _
  omega
/-- It always tells something. -/
theorem mBL_some {f : List BB → List BB → Option (List PP × Option BB)} (H : List BB) : ∀ (m : List BB), (∀ b ∈ m, ∀ x : BB, ∃ r, f b.f4 x.f4 = some r) → ∃ r, mBL f H m = some r
  | [], _ => ⟨_, rfl⟩
  | b :: r, h => by
    rw [mBL]
    cases hf : fnd H (keyB b) with
    | none => exact ⟨_, rfl⟩
    | some x =>
      dsimp only
      obtain ⟨u, hu⟩ := mBL_some H r (fun y hy => h y (List.mem_cons_of_mem _ hy))
      by_cases h4 : b.f0 = 4
      · rw [if_pos h4]
        obtain ⟨⟨l, m⟩, hy⟩ := h b List.mem_cons_self x
        rw [hy]
        cases m with
        | some m => exact ⟨_, rfl⟩
        | none => dsimp only; rw [hu]; exact ⟨_, rfl⟩
      · rw [if_neg h4, hu]
        exact ⟨_, rfl⟩
theorem mB_some (k : Nat) : ∀ (s H : List BB), szL s < k → ∃ r, mB k s H = some r := by
  induction k with
  | zero => intro s H h; omega
  | succ k ih =>
    intro s H h
    rw [mB]
    exact mBL_some H (visL s) (fun b hb x => ih b.f4 x.f4 (by have := szB_parts (visL_sub hb); omega))
/-- No more links than bindings. -/
theorem pairIf_len (a b : Int) : (pairIf a b).length ≤ 1 := by
  unfold pairIf
  split <;> simp
theorem mBL_len (k : Nat) (H : List BB) (ih : ∀ (s H : List BB) (res : List PP × Option BB), mB k s H = some res → res.1.length ≤ szL s) : ∀ (m : List BB) (res : List PP × Option BB), mBL (mB k) H m = some res → res.1.length ≤ szL m
  | [], res, h => by
    obtain rfl := Option.some.inj h
    exact Nat.zero_le _
  | b :: r, res, h => by
    rw [mBL] at h
    have hs : szL (b :: r) = szB b + szL r := by simp only [szL]
    have hb : szL b.f4 + 1 ≤ szB b := by
      obtain ⟨_, _, _, _, pa, pm⟩ := b
      simp only [szB]
      omega
    cases hf : fnd H (keyB b) with
    | none =>
      rw [hf] at h
      obtain rfl := Option.some.inj h
      exact Nat.zero_le _
    | some x =>
      rw [hf] at h
      dsimp only at h
      have hp := pairIf_len b.f2 x.f2
      by_cases h4 : b.f0 = 4
      · rw [if_pos h4] at h
        cases hg : mB k b.f4 x.f4 with
        | none => rw [hg] at h; cases h
        | some y =>
          have hy := ih _ _ _ hg
          rw [hg] at h
          obtain ⟨l, m⟩ := y
          cases m with
          | some m =>
            obtain rfl := Option.some.inj h
            dsimp only at hy ⊢
            rw [List.length_append]
            omega
          | none =>
            dsimp only at h hy
            obtain ⟨u, hu, h⟩ := Option.bind_eq_some_iff.1 h
            obtain rfl := Option.some.inj h
            have := mBL_len k H ih r u hu
            dsimp only
            rw [List.length_append, List.length_append]
            omega
      · rw [if_neg h4] at h
        obtain ⟨u, hu, h⟩ := Option.bind_eq_some_iff.1 h
        obtain rfl := Option.some.inj h
        have := mBL_len k H ih r u hu
        dsimp only
        rw [List.length_append]
        omega
theorem szL_vis : ∀ l : List BB, szL (visL l) ≤ szL l
  | [] => Nat.le_refl _
  | b :: r => by
    have := szL_vis r
    rw [visL]
    split
    · simp only [szL]; omega
    · simp only [szL]; omega
theorem mB_len (k : Nat) : ∀ (s H : List BB) (res : List PP × Option BB), mB k s H = some res → res.1.length ≤ szL s := by
  induction k with
  | zero => intro s H res h; cases h
  | succ k ih =>
    intro s H res h
    exact Nat.le_trans (mBL_len k H ih (visL s) res h) (szL_vis s)
/-! #### what follows of a match -/
/-- An environment matches itself. -/
theorem pairIf_self (a : Int) : pairIf a a = [] := by unfold pairIf; rw [if_pos rfl]
theorem mBL_self (k : Nat) (s : List BB) (ih : ∀ b ∈ s, ∀ r, mB k b.f4 b.f4 = some r → r = ([], none)) : ∀ (m : List BB) (res : List PP × Option BB), (∀ b ∈ m, b ∈ visL s) → mBL (mB k) s m = some res → res = ([], none)
  | [], res, _, h => (Option.some.inj h).symm
  | b :: r, res, hm, h => by
    rw [mBL, visL_fnd (hm b List.mem_cons_self)] at h
    dsimp only at h
    rw [pairIf_self] at h
    have hr := mBL_self k s ih r
    have hms : ∀ y ∈ r, y ∈ visL s := fun y hy => hm y (List.mem_cons_of_mem _ hy)
    by_cases h4 : b.f0 = 4
    · rw [if_pos h4] at h
      cases hg : mB k b.f4 b.f4 with
      | none => rw [hg] at h; cases h
      | some y =>
        have hy := ih b (visL_sub (hm b List.mem_cons_self)) y hg
        rw [hg, hy] at h
        dsimp only at h
        obtain ⟨u, hu, h⟩ := Option.bind_eq_some_iff.1 h
        rw [hr u hms hu] at h
        exact (Option.some.inj h).symm
    · rw [if_neg h4] at h
      obtain ⟨u, hu, h⟩ := Option.bind_eq_some_iff.1 h
      rw [hr u hms hu] at h
      exact (Option.some.inj h).symm
theorem mB_self (k : Nat) : ∀ (s : List BB) (res : List PP × Option BB), mB k s s = some res → res = ([], none) := by
  induction k with
  | zero => intro s res h; cases h
  | succ k ih => intro s res h; exact mBL_self k s (fun b _ r hr => ih b.f4 r hr) (visL s) res (fun _ h => h) h
/-- All is there. -/
def okM (f : List BB → List BB → Prop) (H : List BB) (m : List BB) : Prop := ∀ b ∈ m, ∃ h, fnd H (keyB b) = some h ∧ (b.f0 = 4 → f b.f4 h.f4)
def okT : Nat → List BB → List BB → Prop
  | 0, _, _ => False
  | k + 1, s, H => okM (okT k) H (visL s)
theorem mBL_ok (k : Nat) (H : List BB) (ih : ∀ (s H : List BB) (res : List PP × Option BB), mB k s H = some res → (res.2 = none ↔ okT k s H)) : ∀ (m : List BB) (res : List PP × Option BB), mBL (mB k) H m = some res → (res.2 = none ↔ okM (okT k) H m)
  | [], res, h => by
    obtain rfl := Option.some.inj h
    exact ⟨fun _ b hb => (by cases hb), fun _ => rfl⟩
  | b :: r, res, h => by
    rw [mBL] at h
    have hr := mBL_ok k H ih r
    have hcons : okM (okT k) H (b :: r) ↔ (∃ h, fnd H (keyB b) = some h ∧ (b.f0 = 4 → okT k b.f4 h.f4)) ∧ okM (okT k) H r :=
      ⟨fun h => ⟨h b List.mem_cons_self, fun x hx => h x (List.mem_cons_of_mem _ hx)⟩, fun h x hx => by
        rcases List.mem_cons.1 hx with rfl | hx
        · exact h.1
        · exact h.2 x hx⟩
    rw [hcons]
    cases hf : fnd H (keyB b) with
    | none =>
      rw [hf] at h
      obtain rfl := Option.some.inj h
      simp
    | some x =>
      rw [hf] at h
      dsimp only at h
      by_cases h4 : b.f0 = 4
      · rw [if_pos h4] at h
        cases hg : mB k b.f4 x.f4 with
        | none => rw [hg] at h; cases h
        | some y =>
          have hy := ih _ _ _ hg
          rw [hg] at h
          obtain ⟨l, m⟩ := y
          cases m with
          | some m =>
            obtain rfl := Option.some.inj h
            simp only [reduceCtorEq, false_iff] at hy ⊢
            rintro ⟨⟨h', he, hk⟩, _⟩
            obtain rfl := Option.some.inj he
            exact hy (hk h4)
          | none =>
            dsimp only at h hy
            obtain ⟨u, hu, h⟩ := Option.bind_eq_some_iff.1 h
            obtain rfl := Option.some.inj h
            have h1 := hr u hu
            dsimp only
            rw [h1]
            exact ⟨fun h2 => ⟨⟨x, rfl, fun _ => hy.1 rfl⟩, h2⟩, fun h2 => h2.2⟩
      · rw [if_neg h4] at h
        obtain ⟨u, hu, h⟩ := Option.bind_eq_some_iff.1 h
        obtain rfl := Option.some.inj h
        have h1 := hr u hu
        dsimp only
        rw [h1]
        exact ⟨fun h2 => ⟨⟨x, rfl, fun h3 => absurd h3 h4⟩, h2⟩, fun h2 => h2.2⟩
theorem mB_ok (k : Nat) : ∀ (s H : List BB) (res : List PP × Option BB), mB k s H = some res → (res.2 = none ↔ okT k s H) := by
  induction k with
  | zero => intro s H res h; cases h
  | succ k ih => intro s H res h; exact mBL_ok k H ih (visL s) res h
/-- What matches one that matches another one matches that, too. -/
theorem okT_trans (k : Nat) : ∀ (a b c : List BB), okT k a b → okT k b c → okT k a c := by
  induction k with
  | zero => intro a b c h; exact h.elim
  | succ k ih =>
    intro a b c h1 h2 x hx
    obtain ⟨y, hy, hxy⟩ := h1 x hx
    obtain ⟨z, hz, hyz⟩ := h2 y (fnd_vis hy)
    have hk : keyB y = keyB x := (fnd_key hy).1
    rw [hk] at hz
    refine ⟨z, hz, fun h4 => ih x.f4 y.f4 z.f4 (hxy h4) (hyz ?_)⟩
    have : y.f0 = x.f0 := congrArg Prod.fst hk
    rw [this]
    exact h4
end Go.Proofs.Ytfmbfnjlennfoaa.Nt
