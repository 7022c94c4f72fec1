/- The document's own functions of chapter 04 come to the same plain words. -/
import Derived.Test.YtfccifekaokibaaGreatDoorQTx17
import Derived.Test.YtfccifekaokibaaGreatDoorQTx12
import Derived.Test.YtfccifekaokibaaGreatDoorGpFacts
namespace Oriel.Lx
def marksR : List T := [[40], [41], [44], [46], [59], [95], [61], [61, 62], [124], [58], [58, 62], [45, 62]]
theorem beq8 (x y : UInt8) : (x == y) = decide (x = y) := by by_cases h : x = y <;> simp [h]
theorem marks_same (l : T) : marksR.contains l = markT l := by
  rcases l with _ | ⟨a, _ | ⟨b, _ | ⟨c, r⟩⟩⟩
  · decide
  · have h : ∀ n : Fin 256, marksR.contains [UInt8.ofNat n.val] = markT [UInt8.ofNat n.val] := by decide +kernel
    have := h ⟨a.toNat, a.toNat_lt⟩
    simpa using this
  · simp [marksR, markT, reserved, Bool.or_assoc, beq8]
  · simp [marksR, markT, reserved]
def kindR (l : T) : Int := match l with
  | [] => 0
  | b :: r => if markT (b :: r) then 11 else if (b :: r).all isSign then 9 else if !(b :: r).all isRest then 0 else if isGreat b then 7 else if b == 39 && head1 isSmall r then 8 else if !isSmall b then 0 else if isKeyword (b :: r) then 10 else 6
theorem not_great39 : isGreat 39 = false := by decide
theorem not_small39 : isSmall 39 = false := by decide
theorem kind_same (l : T) : kindR l = kindT l := by
  rcases l with _ | ⟨b, r⟩
  · rfl
  · have e : (b :: r).all isSign = (isSign b && (b :: r).all isSign) := by rw [List.all_cons]; cases isSign b <;> rfl
    unfold kindR kindT
    dsimp only
    rw [← e]
    cases markT (b :: r) with
    | true => rfl
    | false =>
      cases (b :: r).all isSign with
      | true => rfl
      | false =>
        cases (b :: r).all isRest with
        | false => simp
        | true =>
          by_cases hb : b = 39
          · subst hb
            rw [not_great39, not_small39]
            cases head1 isSmall r <;> rfl
          · have : (b == 39) = false := by simpa using hb
            rw [this]
            cases isGreat b <;> cases isSmall b <;> simp
theorem levR (b : UInt8) : (if ([[42], [47], [37]] : List T).contains [b] = true then ((7 : Int), false) else if ([[43], [45]] : List T).contains [b] = true then (6, false) else if ([[94], [64], [58]] : List T).contains [b] = true then (5, true) else if ([[61], [60], [62], [33]] : List T).contains [b] = true then (4, false) else if ([[38], [124]] : List T).contains [b] = true then (3, false) else (2, false)) = levB b := by
  have h : ∀ n : Fin 256, (if ([[42], [47], [37]] : List T).contains [UInt8.ofNat n.val] = true then ((7 : Int), false) else if ([[43], [45]] : List T).contains [UInt8.ofNat n.val] = true then (6, false) else if ([[94], [64], [58]] : List T).contains [UInt8.ofNat n.val] = true then (5, true) else if ([[61], [60], [62], [33]] : List T).contains [UInt8.ofNat n.val] = true then (4, false) else if ([[38], [124]] : List T).contains [UInt8.ofNat n.val] = true then (3, false) else (2, false)) = levB (UInt8.ofNat n.val) := by decide +kernel
  have := h ⟨b.toNat, b.toNat_lt⟩
  simpa using this
end Oriel.Lx
namespace Go.Proofs.YtfccifekaokibaaGreatDoor.Rf
open Go.RowKit Go.Proofs.YtfccifekaokibaaGreatDoor.QT Go.Proofs.YtfccifekaokibaaGreatDoorW.PrintWords Go.Proofs.YtfccifekaokibaaGreatDoorW.PrintLast Oriel.Lx Go.Proofs.YtfccifekaokibaaGreatDoor.Lx
theorem in_loop (l : List ByteArray) (hl : l.length ≤ 1000000) (s : ByteArray) : ∀ d n : Nat, l.length - n = d → n ≤ l.length →
    Ev (fun k => orielref04_In.l0 k l s (n : Int)) (((l.drop n).map (·.data.toList)).contains s.data.toList) := by
  intro d
  induction d with
  | zero =>
    intro n hd hn
    have e : l.drop n = [] := List.drop_of_length_le (by omega)
    rw [e]
    exact Ev.step (f := fun _ => some false) (fun k => by rw [orielref04_In.l0, if_neg (by omega)]) (Ev.now _)
  | succ d ih =>
    intro n hd hn
    have hlt : n < l.length := by omega
    have hrd : rdOf ByteArray.empty l (n : Int) = l[n] := by
      unfold rdOf
      rw [show ((n : Int)).toNat = n from rfl, List.getD_eq_getElem?_getD, List.getElem?_eq_getElem hlt]
      rfl
    rw [List.drop_eq_getElem_cons hlt, List.map_cons, List.contains_cons]
    have step := ih (n + 1) (by omega) (by omega)
    by_cases he : l[n].data.toList = s.data.toList
    · have hb : (s.data.toList == l[n].data.toList) = true := by rw [beq_iff_eq]; exact he.symm
      rw [hb, Bool.true_or]
      exact Ev.step (f := fun _ => some true) (fun k => by rw [orielref04_In.l0, if_pos (by omega), if_pos (by omega), hrd, ByteArray.toList_eq, ByteArray.toList_eq, if_pos he]) (Ev.now _)
    · have hb : (s.data.toList == l[n].data.toList) = false := by rw [beq_eq_false_iff_ne]; exact fun h => he h.symm
      rw [hb, Bool.false_or]
      refine Ev.step (f := fun k => orielref04_In.l0 k l s ((n + 1 : Nat) : Int)) (fun k => by rw [orielref04_In.l0, if_pos (by omega), if_pos (by omega), hrd, ByteArray.toList_eq, ByteArray.toList_eq, if_neg he, wrap_nat n (by omega)]) step
theorem in_ev (l : List ByteArray) (hl : l.length ≤ 1000000) (s : ByteArray) : Ev (fun k => orielref04_In.f k l s) ((l.map (·.data.toList)).contains s.data.toList) := by
  have := in_loop l hl s l.length 0 (by omega) (by omega)
  rw [List.drop_zero] at this
  exact this
theorem rsmall_f (c : UInt8) : orielref04_Small.f (c.toNat : Int) = some (isSmall c) := by
  refine all_bytes (P := fun c => orielref04_Small.f (c.toNat : Int) = some (isSmall c)) ?_ c
  decide +kernel
theorem rgreat_f (c : UInt8) : orielref04_Great.f (c.toNat : Int) = some (isGreat c) := by
  refine all_bytes (P := fun c => orielref04_Great.f (c.toNat : Int) = some (isGreat c)) ?_ c
  decide +kernel
theorem rrest_f (c : UInt8) : orielref04_Rest.f (c.toNat : Int) = some (isRest c) := by
  refine all_bytes (P := fun c => orielref04_Rest.f (c.toNat : Int) = some (isRest c)) ?_ c
  decide +kernel
theorem rsign_ev (c : UInt8) : Ev (fun k => orielref04_Signs.f k (c.toNat : Int)) (isSign c) := by
  refine Ev.of (orielref04_Signs.mono _) (k := 25) ?_
  refine all_bytes (P := fun c => orielref04_Signs.f 25 (c.toNat : Int) = some (isSign c)) ?_ c
  decide +kernel
theorem rmark_ev (s : ByteArray) : Ev (fun k => (orielref04_Marks.f).bind fun t => orielref04_In.f k t s) (markT s.data.toList) := by
  unfold orielref04_Marks.f
  simp only [Option.bind_some]
  rw [← marks_same]
  exact in_ev _ (by decide) s
theorem rkey_ev (s : ByteArray) : Ev (fun k => (orielref04_Keywords.f).bind fun t => orielref04_In.f k t s) (isKeyword s.data.toList) := by
  unfold orielref04_Keywords.f
  simp only [Option.bind_some]
  exact in_ev _ (by decide) s
theorem rkind_j1 (s : ByteArray) (b : UInt8) (r : List UInt8) (hd : s.data.toList = b :: r) (v : Bool) :
    Ev (fun k => orielref04_Kind.j1 k s v) (if v = true then 8 else if !isSmall b then 0 else if isKeyword (b :: r) then 10 else 6) := by
  have hl := len s
  have h0 := bt0 s b r hd
  have hsz : 0 < s.size := by rw [← hl, hd]; simp
  cases v with
  | true => exact Ev.step (f := fun _ => some 8) (fun k => by rw [orielref04_Kind.j1, if_pos rfl]) (Ev.now _)
  | false =>
    obtain ⟨K, h⟩ := rkey_ev s
    refine ⟨K + 1, fun k hk => ?_⟩
    obtain ⟨k, rfl⟩ : ∃ m, k = m + 1 := ⟨k - 1, by omega⟩
    have h' := h k (by omega)
    dsimp only at h' ⊢
    rw [orielref04_Kind.j1, if_neg (by simp), if_pos (by omega), h0, rsmall_f]
    simp only [Option.bind_some]
    cases isSmall b with
    | false => rfl
    | true =>
      rw [if_pos rfl]
      unfold orielref04_Keywords.f at h' ⊢
      simp only [Option.bind_some] at h' ⊢
      rw [h', hd]
      cases isKeyword (b :: r) <;> rfl
theorem rkind_loop (s : ByteArray) (hs : s.size ≤ 140737488351232) (b : UInt8) (r : List UInt8) (hd : s.data.toList = b :: r) : ∀ d n : Nat, ∀ R S : Bool, s.size - n = d → n ≤ s.size →
    Ev (fun k => orielref04_Kind.l0 k s R S (n : Int)) (if (S && (s.data.toList.drop n).all isSign) = true then 9 else if (!(R && (s.data.toList.drop n).all isRest)) = true then 0 else if isGreat b then 7 else if b == 39 && head1 isSmall r then 8 else if !isSmall b then 0 else if isKeyword (b :: r) then 10 else 6) := by
  have hl := len s
  have h0 := bt0 s b r hd
  have hsz : 0 < s.size := by rw [← hl, hd]; simp
  intro d
  induction d with
  | zero =>
    intro n R S he hn
    have e : s.data.toList.drop n = [] := List.drop_of_length_le (by omega)
    rw [e, List.all_nil, List.all_nil, Bool.and_true, Bool.and_true]
    cases S with
    | true => exact Ev.step (f := fun _ => some 9) (fun k => by rw [orielref04_Kind.l0, if_neg (by omega), if_pos rfl]) (Ev.now _)
    | false =>
      cases R with
      | false => exact Ev.step (f := fun _ => some 0) (fun k => by rw [orielref04_Kind.l0, if_neg (by omega), if_neg (by simp), if_neg (by simp)]) (Ev.now _)
      | true =>
        simp only [Bool.false_eq_true, if_false, Bool.not_true]
        cases hg : isGreat b with
        | true => exact Ev.step (f := fun _ => some 7) (fun k => by rw [orielref04_Kind.l0, if_neg (by omega), if_neg (by simp), if_pos rfl, if_pos (by omega), h0, rgreat_f, hg]; rfl) (Ev.now _)
        | false =>
          simp only [Bool.false_eq_true, if_false]
          by_cases hq : b = 39
          · subst hq
            rcases r with _ | ⟨c, r⟩
            · have e1 : s.size = 1 := by rw [← hl, hd]; rfl
              refine Ev.step (f := fun k => orielref04_Kind.j1 k s false) (fun k => by rw [orielref04_Kind.l0, if_neg (by omega), if_neg (by simp), if_pos rfl, if_pos (by omega), h0, rgreat_f, hg]; simp only [Option.bind_some]; rw [if_neg (by simp), if_pos (by decide), if_neg (by omega)]) ?_
              simpa [head1] using rkind_j1 s 39 [] hd false
            · have h1 := bt1 s 39 c r hd
              have e1 : 2 ≤ s.size := by rw [← hl, hd]; simp
              refine Ev.step (f := fun k => orielref04_Kind.j1 k s (isSmall c)) (fun k => by rw [orielref04_Kind.l0, if_neg (by omega), if_neg (by simp), if_pos rfl, if_pos (by omega), h0, rgreat_f, hg]; simp only [Option.bind_some]; rw [if_neg (by simp), if_pos (by decide), if_pos (by omega), if_pos (by omega), h1, rsmall_f]; rfl) ?_
              simpa [head1] using rkind_j1 s 39 (c :: r) hd (isSmall c)
          · have hq' : ¬ ((b.toNat : Int) = 39) := fun e => hq ((eqb b 39 (by omega)).1 e)
            refine Ev.step (f := fun k => orielref04_Kind.j1 k s false) (fun k => by rw [orielref04_Kind.l0, if_neg (by omega), if_neg (by simp), if_pos rfl, if_pos (by omega), h0, rgreat_f, hg]; simp only [Option.bind_some]; rw [if_neg (by simp), if_neg hq']) ?_
            simpa [hq] using rkind_j1 s b r hd false
  | succ d ih =>
    intro n R S he hn
    have hlt : n < s.size := by omega
    obtain ⟨c, h1, h2⟩ := bt_nat s n hlt
    have hc := drop_cons h1
    rw [hc, List.all_cons, List.all_cons]
    have hw := wrap_nat n (by omega)
    obtain ⟨K1, e1⟩ := rsign_ev c
    obtain ⟨K2, e2⟩ := ih (n + 1) (R && isRest c) (S && isSign c) (by omega) (by omega)
    refine ⟨K1 + K2 + 1, fun k hk => ?_⟩
    obtain ⟨k, rfl⟩ : ∃ m, k = m + 1 := ⟨k - 1, by omega⟩
    have e1' := e1 k (by omega)
    have e2' := e2 k (by omega)
    dsimp only at e1' e2' ⊢
    rw [← Bool.and_assoc, ← Bool.and_assoc, ← e2', orielref04_Kind.l0, if_pos (by omega), h2, hw, rrest_f, e1']
    have p0 : (0 : Int) ≤ (n : Int) := by omega
    cases R <;> cases S <;> simp [p0]
theorem rkind_ev (s : ByteArray) (hs : s.size ≤ 140737488351232) : Ev (fun k => orielref04_Kind.f k s) (kindT s.data.toList) := by
  rw [← kind_same]
  rcases hd : s.data.toList with _ | ⟨b, r⟩
  · refine Ev.congr (f := fun _ => some 0) (fun k => ?_) (Ev.now _)
    unfold orielref04_Kind.f
    rw [ByteArray.toList_eq, hd, if_pos rfl]
  · obtain ⟨K1, e1⟩ := rmark_ev s
    obtain ⟨K2, e2⟩ := rkind_loop s hs b r hd s.size 0 true true (by omega) (by omega)
    refine ⟨K1 + K2, fun k hk => ?_⟩
    have e1' := e1 k (by omega)
    have e2' := e2 k (by omega)
    dsimp only at e1' e2'
    rw [List.drop_zero, hd, Bool.true_and, Bool.true_and] at e2'
    unfold orielref04_Marks.f at e1'
    simp only [Option.bind_some] at e1'
    simp only [orielref04_Kind.f, orielref04_Marks.f, Option.bind_some]
    rw [ByteArray.toList_eq, hd, if_neg (by simp), e1', hd]
    simp only [Option.bind_some, kindR]
    cases markT (b :: r) with
    | true => rfl
    | false => simpa using e2'
theorem rlevel_ev (s : ByteArray) (hs : s.size ≤ 140737488351232) : Ev (fun k => orielref04_Level.f k s) (levT s.data.toList) := by
  have hl := len s
  obtain ⟨K0, e0⟩ := rkind_ev s hs
  obtain ⟨K1, e1⟩ := in_ev [(⟨#[42]⟩ : ByteArray), (⟨#[47]⟩ : ByteArray), (⟨#[37]⟩ : ByteArray)] (by decide) (s.extract 0 1)
  obtain ⟨K2, e2⟩ := in_ev [(⟨#[43]⟩ : ByteArray), (⟨#[45]⟩ : ByteArray)] (by decide) (s.extract 0 1)
  obtain ⟨K3, e3⟩ := in_ev [(⟨#[94]⟩ : ByteArray), (⟨#[64]⟩ : ByteArray), (⟨#[58]⟩ : ByteArray)] (by decide) (s.extract 0 1)
  obtain ⟨K4, e4⟩ := in_ev [(⟨#[61]⟩ : ByteArray), (⟨#[60]⟩ : ByteArray), (⟨#[62]⟩ : ByteArray), (⟨#[33]⟩ : ByteArray)] (by decide) (s.extract 0 1)
  obtain ⟨K5, e5⟩ := in_ev [(⟨#[38]⟩ : ByteArray), (⟨#[124]⟩ : ByteArray)] (by decide) (s.extract 0 1)
  refine ⟨K0 + K1 + K2 + K3 + K4 + K5, fun k hk => ?_⟩
  have e0' := e0 k (by omega)
  have e1' := e1 k (by omega)
  have e2' := e2 k (by omega)
  have e3' := e3 k (by omega)
  have e4' := e4 k (by omega)
  have e5' := e5 k (by omega)
  dsimp only at e0' e1' e2' e3' e4' e5'
  simp only [orielref04_Level.f, e0', Option.bind_some, e1', e2', e3', e4', e5']
  unfold levT
  by_cases h9 : kindT s.data.toList = 9
  · rw [if_pos h9, if_pos h9]
    rcases hd : s.data.toList with _ | ⟨b, r⟩
    · rw [hd] at h9
      exact absurd h9 (by decide)
    · have hsz : 0 < s.size := by rw [← hl, hd]; simp
      have hx : (s.extract 0 1).data.toList = [b] := by
        rw [ByteArray.data_extract, Array.toList_extract, hd]
        simp [List.extract]
      rw [if_pos (by omega), if_pos (by omega), hx]
      show _ = some (levB b)
      rw [← levR b]
      simp only [List.map_cons, List.map_nil]
      (repeat' split) <;> first | rfl | (simp_all; done)
  · rw [if_neg h9, if_neg h9]
end Go.Proofs.YtfccifekaokibaaGreatDoor.Rf

