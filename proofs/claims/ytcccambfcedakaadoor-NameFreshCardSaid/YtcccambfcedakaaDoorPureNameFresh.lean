/- NameFresh: which name is fresh is as the document says. No condition. -/
import Derived.Test.YtcccambfcedakaaDoorNmFresh
namespace Go.Proofs.YtcccambfcedakaaDoor.Pure
open Go.RowKit Go.Proofs.YtcccambfcedakaaDoor.QD Go.Proofs.YtcccambfcedakaaDoorW.PrintWords Go.Proofs.YtcccambfcedakaaDoorW.PrintLast Oriel.Lx Go.Proofs.YtcccambfcedakaaDoor.Lx
def spaceF (sp : Int) : ByteArray := if sp < 0 then ⟨#[]⟩ else (spL[sp.toNat]?).getD ⟨#[]⟩
theorem space_out (sp : Int) (h : ¬ (1 ≤ sp ∧ sp ≤ 6)) : (spaceF sp).toList = [] := by
  rw [ByteArray.toList_eq]
  unfold spaceF
  by_cases h0 : sp < 0
  · rw [if_pos h0]
  · rw [if_neg h0]
    by_cases h1 : sp = 0
    · subst h1; rfl
    · rw [List.getElem?_eq_none (by simp [spL]; omega)]
      rfl
theorem fresh_out (sp : Int) (l : List ByteArray) (h : ¬ (1 ≤ sp ∧ sp ≤ 6)) : Ev (fun k => name_Fresh.f k sp l) ((⟨#[]⟩ : ByteArray), false) := by
  unfold name_Fresh.f
  have fs : name_Space.f sp = some (spaceF sp) := rfl
  simp only [fs, Option.bind_some, if_pos (space_out sp h)]
  exact Ev.now _
theorem rfresh_out (sp : Int) (l : List ByteArray) (h : ¬ (1 ≤ sp ∧ sp ≤ 6)) : Ev (fun k => orielref04_Fresh.f k sp l) ((⟨#[]⟩ : ByteArray), false) := by
  unfold orielref04_Fresh.f
  have j : Ev (fun k => orielref04_Fresh.j0 k sp l true) ((⟨#[]⟩ : ByteArray), false) := Ev.step (f := fun _ => some ((⟨#[]⟩ : ByteArray), false)) (fun k => by rw [orielref04_Fresh.j0, if_pos rfl]) (Ev.now _)
  by_cases h1 : sp < 1
  · simp only [if_pos h1]; exact j
  · have h6 : decide (sp > 6) = true := decide_eq_true (by omega)
    simp only [if_neg h1, h6]; exact j
theorem fresh_in (sp : Int) (l : List ByteArray) (hl : l.length ≤ 1000000) (h : 1 ≤ sp ∧ sp ≤ 6) (i0 : Nat) (hi : i0 ≤ 200) (h0 : (l.map (·.data.toList)).contains (cand (mayT sp 7) i0) = false) (hb : ∀ j, j < i0 → (l.map (·.data.toList)).contains (cand (mayT sp 7) j) = true) :
    Ev (fun k => name_Fresh.f k sp l) (txt (cand (mayT sp 7) i0), true) := by
  have w := fresh_walk (mayT sp 7) l hl i0 hi h0 hb i0 0 (by omega) (by omega)
  have j : Ev (fun k => name_Fresh.j0 k l (lettersB (mayT sp 7))) (txt (cand (mayT sp 7) i0), true) := by
    refine Ev.step (f := fun k => name_Fresh.l0 k l (lettersB (mayT sp 7)) 0) (fun k => by rw [name_Fresh.j0]) ?_
    exact Ev.step (f := fun k => name_Fresh.l1 k l (lettersB (mayT sp 7)) ((0 / 3 : Nat) : Int) 3 ((0 % 3 : Nat) : Int)) (fun k => by rw [name_Fresh.l0, letters_size]; rfl) w
  have hs : ¬ (spaceF sp).toList = [] := by
    have : sp = 1 ∨ sp = 2 ∨ sp = 3 ∨ sp = 4 ∨ sp = 5 ∨ sp = 6 := by omega
    rcases this with rfl | rfl | rfl | rfl | rfl | rfl <;> (rw [ByteArray.toList_eq]; decide)
  have fs : name_Space.f sp = some (spaceF sp) := rfl
  obtain ⟨K1, e1⟩ := may_ev sp (⟨#[88]⟩ : ByteArray) (by decide)
  obtain ⟨K2, e2⟩ := j
  refine ⟨K1 + K2, fun k hk => ?_⟩
  have f1 := e1 k (by omega)
  have f2 := e2 k (by omega)
  dsimp only at f1 f2 ⊢
  rw [show kindT (⟨#[88]⟩ : ByteArray).data.toList = 7 by decide +kernel] at f1
  unfold name_Fresh.f
  rw [fs]
  simp only [Option.bind_some]
  rw [if_neg hs, f1]
  simp only [Option.bind_some]
  unfold lettersB at f2
  cases hm : mayT sp 7 with
  | true => rw [hm, if_pos rfl] at f2; rw [if_pos rfl]; exact f2
  | false => rw [hm, if_neg (by simp)] at f2; rw [if_neg (by simp)]; exact f2
theorem rfresh_in (sp : Int) (l : List ByteArray) (hl : l.length ≤ 1000000) (h : 1 ≤ sp ∧ sp ≤ 6) (i0 : Nat) (hi : i0 ≤ 200) (hil : i0 ≤ l.length) (h0 : (l.map (·.data.toList)).contains (cand (mayT sp 7) i0) = false) (hb : ∀ j, j < i0 → (l.map (·.data.toList)).contains (cand (mayT sp 7) j) = true) :
    Ev (fun k => orielref04_Fresh.f k sp l) (txt (cand (mayT sp 7) i0), true) := by
  have w := rfresh_walk (mayT sp 7) l hl i0 hi hil h0 hb i0 0 (by omega) (by omega)
  have j2 : Ev (fun k => orielref04_Fresh.j2 k l (lettersL (mayT sp 7))) (txt (cand (mayT sp 7) i0), true) :=
    Ev.step (f := fun k => orielref04_Fresh.l0 k l (lettersL (mayT sp 7)) 0) (fun k => by rw [orielref04_Fresh.j2]) w
  have hj1 : Ev (fun k => orielref04_Fresh.j1 k l [⟨#[88]⟩, ⟨#[89]⟩, ⟨#[90]⟩] (!mayT sp 7)) (txt (cand (mayT sp 7) i0), true) := by
    unfold lettersL at j2
    cases hm : mayT sp 7 with
    | true =>
      rw [hm] at j2
      exact Ev.step (f := fun k => orielref04_Fresh.j2 k l [⟨#[88]⟩, ⟨#[89]⟩, ⟨#[90]⟩]) (fun k => by rw [orielref04_Fresh.j1, if_neg (by simp)]) j2
    | false =>
      rw [hm] at j2
      exact Ev.step (f := fun k => orielref04_Fresh.j2 k l [⟨#[120]⟩, ⟨#[121]⟩, ⟨#[122]⟩]) (fun k => by rw [orielref04_Fresh.j1, if_pos (show (!false) = true from rfl)]) j2
  have hj0 : Ev (fun k => orielref04_Fresh.j0 k sp l false) (txt (cand (mayT sp 7) i0), true) := by
    refine Ev.step (f := fun k => orielref04_Fresh.j1 k l [⟨#[88]⟩, ⟨#[89]⟩, ⟨#[90]⟩] (!mayT sp 7)) (fun k => ?_) hj1
    rw [orielref04_Fresh.j0, if_neg (by simp)]
    simp only [Option.bind_some]
    have : sp = 1 ∨ sp = 2 ∨ sp = 3 ∨ sp = 4 ∨ sp = 5 ∨ sp = 6 := by omega
    rcases this with rfl | rfl | rfl | rfl | rfl | rfl <;> rfl
  unfold orielref04_Fresh.f
  have h1 : ¬ sp < 1 := by omega
  have h6 : decide (sp > 6) = false := decide_eq_false (by omega)
  simp only [if_neg h1, h6]
  exact hj0
theorem fresh_j2 (sp : Int) (l : List ByteArray) (v : Bool) (hl : v = false → l.length ≤ 200) : Ev (fun k => oriellaw04_NameFresh.j2 k sp l v) true := by
  cases v with
  | true => exact Ev.step (f := fun k => (oriellaw04_alive.f k).bind fun t => some t) (fun k => by rw [oriellaw04_NameFresh.j2, if_pos rfl]) alive4_b
  | false =>
    have hl := hl rfl
    by_cases h : 1 ≤ sp ∧ sp ≤ 6
    · obtain ⟨i0, h1, h2, h3⟩ := free_one (mayT sp 7) (l.map (·.data.toList)) (by simpa using hl)
      rw [List.length_map] at h1
      have hk := cand_kind (mayT sp 7) i0 (by omega)
      have hsz : (txt (cand (mayT sp 7) i0)).size ≤ 140737488351232 := by
        rw [txt_size]
        unfold cand tail decD
        repeat' split
        all_goals simp
      obtain ⟨K1, e1⟩ := fresh_in sp l (by omega) h i0 (by omega) h2 h3
      obtain ⟨K2, e2⟩ := rfresh_in sp l (by omega) h i0 (by omega) h1 h2 h3
      obtain ⟨K3, e3⟩ := in_ev l (by omega) (txt (cand (mayT sp 7) i0))
      obtain ⟨K4, e4⟩ := may_ev sp (txt (cand (mayT sp 7) i0)) hsz
      obtain ⟨K5, e5⟩ := alive4_b
      refine ⟨K1 + K2 + K3 + K4 + K5 + 1, fun k hk' => ?_⟩
      obtain ⟨k, rfl⟩ : ∃ m, k = m + 1 := ⟨k - 1, by omega⟩
      have f1 := e1 k (by omega)
      have f2 := e2 k (by omega)
      have f3 := e3 k (by omega)
      have f4 := e4 k (by omega)
      have f5 := e5 k (by omega)
      clear e1 e2 e3 e4 e5
      dsimp only at f1 f2 f3 f4 f5 ⊢
      rw [txt_list, h2] at f3
      have hmay : mayT sp (kindT (cand (mayT sp 7) i0)) = true := by
        rw [hk]
        have : sp = 1 ∨ sp = 2 ∨ sp = 3 ∨ sp = 4 ∨ sp = 5 ∨ sp = 6 := by omega
        rcases this with rfl | rfl | rfl | rfl | rfl | rfl <;> decide
      rw [txt_list, hmay] at f4
      rw [oriellaw04_NameFresh.j2, if_neg (by simp), f1]
      simp only [Option.bind_some]
      rw [f2]
      simp only [Option.bind_some, beq_self_eq_true, if_true, f3, f4, Bool.false_eq_true, if_false]
      exact f5
    · obtain ⟨K1, e1⟩ := fresh_out sp l h
      obtain ⟨K2, e2⟩ := rfresh_out sp l h
      obtain ⟨K5, e5⟩ := alive4_b
      refine ⟨K1 + K2 + K5 + 1, fun k hk' => ?_⟩
      obtain ⟨k, rfl⟩ : ∃ m, k = m + 1 := ⟨k - 1, by omega⟩
      have f1 := e1 k (by omega)
      have f2 := e2 k (by omega)
      have f5 := e5 k (by omega)
      dsimp only at f1 f2 f5 ⊢
      rw [oriellaw04_NameFresh.j2, if_neg (by simp), f1]
      simp only [Option.bind_some]
      rw [f2]
      simp only [Option.bind_some, beq_self_eq_true, if_true, Bool.false_eq_true, if_false]
      exact f5
theorem fresh_j1 (sp : Int) (l : List ByteArray) (x : Int) : Ev (fun k => oriellaw04_NameFresh.j1 k sp l x) true := by
  by_cases h : (l.length : Int) > 200
  · exact Ev.step (f := fun k => oriellaw04_NameFresh.j2 k sp l true) (fun k => by rw [oriellaw04_NameFresh.j1, if_pos h]) (fresh_j2 sp l true (fun h => by cases h))
  · exact Ev.step (f := fun k => oriellaw04_NameFresh.j2 k sp l (decide (x > 3000))) (fun k => by rw [oriellaw04_NameFresh.j1, if_neg h]) (fresh_j2 sp l _ (fun _ => by omega))
theorem fresh_loop (sp : Int) (l : List ByteArray) : ∀ d n : Nat, 201 - n = d → n ≤ 201 → ∀ x : Int, Ev (fun k => oriellaw04_NameFresh.l0 k sp l x (n : Int)) true := by
  intro d
  induction d with
  | zero =>
    intro n hd hn x
    obtain rfl : n = 201 := by omega
    by_cases h : ((201 : Nat) : Int) < (l.length : Int)
    · exact Ev.step (f := fun k => oriellaw04_NameFresh.j1 k sp l x) (fun k => by rw [oriellaw04_NameFresh.l0, if_pos h, if_neg (by omega)]) (fresh_j1 sp l x)
    · exact Ev.step (f := fun k => oriellaw04_NameFresh.j1 k sp l x) (fun k => by rw [oriellaw04_NameFresh.l0, if_neg h]) (fresh_j1 sp l x)
  | succ d ih =>
    intro n hd hn x
    by_cases h : (n : Int) < (l.length : Int)
    · refine Ev.step (f := fun k => oriellaw04_NameFresh.l0 k sp l (wrap64 (x + (mn ((rdOf ByteArray.empty l (n : Int)).size : Int) 5000))) ((n + 1 : Nat) : Int)) (fun k => ?_) (ih (n + 1) (by omega) (by omega) _)
      rw [oriellaw04_NameFresh.l0, if_pos h, if_pos (by omega), if_pos (by omega), wrap_nat n (by omega)]
    · exact Ev.step (f := fun k => oriellaw04_NameFresh.j1 k sp l x) (fun k => by rw [oriellaw04_NameFresh.l0, if_neg h]) (fresh_j1 sp l x)
theorem NameFresh (sp : Int) (l : List ByteArray) : ∃ k, oriellaw04_NameFresh.f k sp l = some true := by
  refine Ev.rounds ?_
  unfold oriellaw04_NameFresh.f
  exact fresh_loop sp l 201 0 (by omega) (by omega) 0
end Go.Proofs.YtcccambfcedakaaDoor.Pure
