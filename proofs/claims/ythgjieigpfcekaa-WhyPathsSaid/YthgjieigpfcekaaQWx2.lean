-- Laid by this claim's own program (mprint.py in the repo).
import Derived.Test.YthgjieigpfcekaaQWx0
import Derived.Test.YthgjieigpfcekaaQWx1
namespace Go.Proofs.Ythgjieigpfcekaa.QW
open Go.RowKit Go.Proofs.YthgjieigpfcekaaW.PrintWords Go.Proofs.YthgjieigpfcekaaW.PrintLast Go.Proofs.YthgjieigpfcekaaW.PrintMore
attribute [local go_sem] max2_int min2_int max_two min_two max_three min_three max_four min_four   -- for this text's walks alone
set_option linter.unusedVariables false
set_option linter.unusedSimpArgs false

/-! ### why_Near: function 43 -/
theorem row_flatI {e base : Nat} {ok ok' : Nat → Prop} {w : World} {v : Value} {xs : List Int} (h : (Kd.int .i64).R e w base ok v xs) (hok : ∀ k, v.ownBlock = some k → ok k → ok' k) : (Kd.int .i64).R e w base ok' v xs := by
  obtain ⟨h0, inner, hown, hr⟩ := h
  exact ⟨fun k hk => hok k hk (h0 k hk), inner, hown, hr.imp_ (fun _ _ hm => hm)⟩
theorem rowi_block {w : World} {base g n cap : Nat} {ok : Nat → Prop} {xs : List Int} (h : Kd.R (Kd.int .i64) 3 w base ok (.slice (some ⟨g, 0, none⟩) n cap) xs) :
    n = xs.length ∧ n ≤ cap ∧ cap ≤ maxLen ∧ base ≤ g ∧ ∃ cur : Array Value, w.heap[g]? = some (.cells cur 3 (0, 0)) ∧ cur.size = cap := by
  obtain ⟨_, inner, ⟨_, h2⟩, _⟩ := h
  rcases h2 with ⟨hv, _⟩ | ⟨g', cap', cur, hv, hb, hh, hnc, hcm, hcs, htk⟩
  · cases hv
  · obtain ⟨rfl, hn, rfl⟩ : g = g' ∧ n = xs.length ∧ cap = cap' := by
      injection hv with ha hn hc
      injection ha with ha
      injection ha with hg'
      exact ⟨hg', hn, hc⟩
    exact ⟨hn, by omega, hcm, hb, cur, hh, by rw [hcs]; exact Nat.mul_one _⟩
theorem rowi_make {w : World} {base g cap : Nat} {cur : Array Value} {xs : List Int} (hh : w.heap[g]? = some (.cells cur 3 (0, 0))) (hb : base ≤ g) (hn : xs.length ≤ cap) (hcm : cap ≤ maxLen) (hcs : cur.size = cap)
    (hc : ∀ (j : Nat) (x : Int), xs[j]? = some x → w.cell? ⟨g, j, none⟩ = some (.int .i64 x)) :
    Kd.R (Kd.int .i64) 3 w base (fun _ => True) (.slice (some ⟨g, 0, none⟩) xs.length cap) xs := by
  have hcl : cur.toList.length = cap := by rw [Array.length_toList, hcs]
  have hl : (cur.toList.take (xs.length * 1)).length = xs.length * 1 := by rw [List.length_take, hcl]; omega
  refine ⟨fun _ _ => trivial, cur.toList.take (xs.length * 1), ⟨hl, .inr ⟨g, cap, cur, rfl, hb, hh, hn, hcm, by rw [hcs]; exact (Nat.mul_one _).symm, rfl⟩⟩, hl, fun j x hj => ?_⟩
  have h0 := hc j x hj
  have hjl : j < xs.length := (List.getElem?_eq_some_iff.1 hj).1
  unfold World.cell? at h0
  rw [hh] at h0
  replace h0 : cur[j]? = some (.int .i64 x) := h0
  have e : ((cur.toList.take (xs.length * 1)).drop (j * 1)).take 1 = [.int .i64 x] := by
    apply List.ext_getElem?
    intro i
    rw [List.getElem?_take, List.getElem?_drop, List.getElem?_take]
    match i with
    | 0 => rw [if_pos (by omega), if_pos (by omega), Nat.add_zero, Nat.mul_one, Array.getElem?_toList, h0]; rfl
    | i + 1 => rw [if_neg (by omega)]; rfl
  show (Kd.int .i64).M w base _ x (((cur.toList.take (xs.length * 1)).drop (j * 1)).take 1)
  rw [e]
  exact rfl
theorem rowi_holds {w : World} {base g n cap : Nat} {ok : Nat → Prop} {xs : List Int} (h : Kd.R (Kd.int .i64) 3 w base ok (.slice (some ⟨g, 0, none⟩) n cap) xs) : Sort.Holds (Value.int .i64) w g 0 xs.toArray := by
  obtain ⟨_, _, _, _, cur, hh, _⟩ := rowi_block h
  intro j hj
  rw [List.size_toArray] at hj
  refine ⟨?_, blk_frozen hh _⟩
  obtain ⟨hc, _⟩ := Kd.R_celln (0 : Int) h (j : Int) (by omega) (by omega)
  rw [Int.toNat_natCast] at hc
  rw [Nat.zero_add, hc]
  congr 2
  show xs.getD j _ = _
  rw [getElem!_pos _ _ (by simpa using hj), List.getD_eq_getElem?_getD, List.getElem?_eq_getElem hj]
  simp
theorem rowi_cells {w : World} {base g n cap : Nat} {ok : Nat → Prop} {xs : List Int} (h : Kd.R (Kd.int .i64) 3 w base ok (.slice (some ⟨g, 0, none⟩) n cap) xs) (vs : List Int) (hv : vs.length = n) (ys : List Int) (hy : ys <+: vs) (m : Nat) :
    Kd.R (Kd.int .i64) 3 ((w.drewN m).setCells g 0 (vs.map (Value.int .i64))) base (fun _ => True) (.slice (some ⟨g, 0, none⟩) ys.length cap) ys ∧ w.grownBy ((w.drewN m).setCells g 0 (vs.map (Value.int .i64))) (some g) := by
  obtain ⟨hn, hnc, hcm, hb, cur, hh, hcs⟩ := rowi_block h
  have hh2 : (w.drewN m).heap[g]? = some (.cells cur 3 (0, 0)) := hh
  obtain ⟨cur', hh', hs', ht'⟩ := setCells_row (vs.map (Value.int .i64)) 0 (w.drewN m) cur hh2 (by rw [List.length_map, hcs]; omega)
  obtain ⟨s1, s2, s3, s4⟩ := setCells_same g (vs.map (Value.int .i64)) 0 (w.drewN m)
  have hyl := hy.length_le
  refine ⟨rowi_make hh' hb (by omega) hcm (by rw [hs', hcs]) fun j x hj => ?_, s1, s2, s3, Nat.le_of_eq s4.symm, fun k hk hne => setCells_far _ 0 _ (fun he => hne (by rw [he]))⟩
  have hjl : j < ys.length := (List.getElem?_eq_some_iff.1 hj).1
  unfold World.cell?
  rw [hh']
  show cur'[j]? = _
  rw [← Array.getElem?_toList, ht', List.getElem?_append_left (by simp; omega), List.getElem?_append_right (by simp), List.getElem?_map]
  obtain ⟨zs, rfl⟩ := hy
  simp only [List.length_take, Nat.zero_min, Nat.sub_zero]
  rw [List.getElem?_append_left hjl, hj]
  rfl
set_option maxHeartbeats 2000000 in
/-- slices.Sort at a row of the call's own. -/
theorem sort_int (v : Value) (xs : List Int) (base : Nat) (ok : Nat → Prop) (w : World) (HO : Kd.R (Kd.int .i64) 3 w base ok v xs) (hsz : xs.length ≤ 100000000) :
    Calls Try.prog 77 #[v] w fun e w' => e = .returned (.tuple #[]) ∧ Kd.R (Kd.int .i64) 3 w' base (fun _ => True) v (xs.mergeSort fun x y => decide (x ≤ y)) ∧ w.grownBy w' v.ownBlock := by
  by_cases hem : xs.length = 0
  · obtain ⟨p, cap, rfl⟩ := Kd.R_slice HO
    have hnil : xs = [] := List.length_eq_zero_iff.1 hem
    subst hnil
    refine (Try.slices_Sort_int_none p cap w).mono ?_
    rintro e w' ⟨rfl, rfl⟩
    rw [List.mergeSort_nil]
    exact ⟨rfl, row_flatI HO (fun _ _ _ => trivial), ⟨rfl, rfl, rfl, Nat.le_refl _, fun _ _ _ => rfl⟩⟩
  · obtain ⟨g, cap, rfl, hbg, -, -⟩ := Kd.R_form HO (by omega)
    obtain ⟨hn, hnc, hcm, hb, cur, hh, hcs⟩ := rowi_block HO
    have hlt := blk_lt hh
    have hH := rowi_holds HO
    refine (Try.slices_Sort_int g 0 cap xs w hH hlt (by omega)).mono ?_
    rintro e w' ⟨rfl, m, os, rfl⟩
    obtain ⟨ys, hys⟩ : ∃ ys, (xs.mergeSort fun x y => decide (x ≤ y)) = ys := ⟨_, rfl⟩
    have hl : ys.length = xs.length := by rw [← hys, List.length_mergeSort]
    rw [hys]
    have hsz : (Sort.putRow (Value.int .i64) (Sort.ahead w m) g 0 ys.toArray).heap.size = w.heap.size := by
      rw [Sort.size_putRow]
      rfl
    have hcell : ∀ j, (Sort.grow (Sort.putRow (Value.int .i64) (Sort.ahead w m) g 0 ys.toArray) os).cell? ⟨g, j, none⟩ = (Sort.putRow (Value.int .i64) (Sort.ahead w m) g 0 ys.toArray).cell? ⟨g, j, none⟩ := by
      intro j
      unfold Sort.grow World.cell?
      dsimp only
      rw [Array.getElem?_append_left (by rw [hsz]; exact hlt)]
    have hheap : (Sort.grow (Sort.putRow (Value.int .i64) (Sort.ahead w m) g 0 ys.toArray) os).heap[g]? = some (.cells (Sort.putCells (Value.int .i64) 0 ys.toArray cur) 3 (0, 0)) := by
      unfold Sort.grow
      dsimp only
      rw [Array.getElem?_append_left (by rw [hsz]; exact hlt)]
      unfold Sort.putRow Sort.mapBlock Sort.ahead
      dsimp only
      rw [Array.getElem?_modify, if_pos rfl, hh]
      rfl
    refine ⟨rfl, ?_, ⟨rfl, rfl, rfl, ?_, fun k hk hne => ?_⟩⟩
    · rw [← hl]
      refine rowi_make hheap hb (by omega) hcm (by simp [Sort.putCells, hcs]) fun j x hj => ?_
      have hjl : j < ys.length := (List.getElem?_eq_some_iff.1 hj).1
      have hH' : Sort.Holds (Value.int .i64) (Sort.ahead w m) g 0 xs.toArray := hH
      have := Sort.cell?_putRow (Value.int .i64) (Sort.ahead w m) g 0 xs.toArray ys.toArray hH' (by simp [hl]) j (by simpa [hl] using hjl)
      rw [Nat.zero_add] at this
      rw [hcell, this, getElem!_pos _ _ (by simpa using hjl)]
      have hx : ys.toArray[j]'(by simpa using hjl) = x := by simpa using (List.getElem?_eq_some_iff.1 hj).2
      rw [hx]
    · unfold Sort.grow
      dsimp only
      rw [Array.size_append, hsz]
      omega
    · unfold Sort.grow
      dsimp only
      rw [Array.getElem?_append_left (by rw [hsz]; exact hk)]
      unfold Sort.putRow Sort.mapBlock Sort.ahead
      dsimp only
      rw [Array.getElem?_modify, if_neg (fun e => hne (by rw [e]; rfl))]
/-- slices.Compact at a row of the call's own. -/
theorem compact_int (v : Value) (xs : List Int) (base : Nat) (ok : Nat → Prop) (w : World) (HO : Kd.R (Kd.int .i64) 3 w base ok v xs) (hsz : xs.length ≤ 100000000) :
    Calls Try.prog 78 #[v] w fun e w' => ∃ v1, e = .returned v1 ∧ Kd.R (Kd.int .i64) 3 w' base (fun _ => True) v1 (Lib.compact xs) ∧ w.grownBy w' v.ownBlock := by
  by_cases hem : xs.length = 0
  · obtain ⟨p, cap, rfl⟩ := Kd.R_slice HO
    have hnil : xs = [] := List.length_eq_zero_iff.1 hem
    subst hnil
    have hz : ((0 : Nat) : Int) < 2 := by omega
    have HO0 := Aside0.mk HO
    clear HO
    show Calls Try.prog 78 #[.slice p 0 cap] w _
    go_enter Try.func78, Try.ntmps78
    go_wp2
    go_ret
    exact ⟨_, rfl, row_flatI HO0.out (fun _ _ _ => trivial), ⟨rfl, rfl, rfl, Nat.le_refl _, fun _ _ _ => rfl⟩⟩
  · obtain ⟨g, cap, rfl, hbg, -, -⟩ := Kd.R_form HO (by omega)
    obtain ⟨hn, hnc, hcm, hb, cur, hh, hcs⟩ := rowi_block HO
    have hH := rowi_holds HO
    refine (Try.slices_Compact_int_cells g 0 xs.length cap xs w (Nat.le_refl _) (by omega) hnc (fun j hj => ?_) (fun j hj => blk_frozen hh _)).mono ?_
    · obtain ⟨hc, _⟩ := Kd.R_celln (0 : Int) HO (j : Int) (by omega) (by omega)
      rw [Int.toNat_natCast] at hc
      rw [Nat.zero_add, hc]
      rfl
    · rw [List.take_of_length_le (Nat.le_refl _)]
      rintro e w' ⟨rfl, q, rfl⟩
      have hcl := Lib.compact_length_le xs
      obtain ⟨r1, r2⟩ := rowi_cells HO (Lib.compact xs ++ List.replicate (xs.length - (Lib.compact xs).length) 0) (by rw [List.length_append, List.length_replicate]; omega) (Lib.compact xs) (List.prefix_append _ _) q
      exact ⟨_, rfl, r1, r2⟩

/-- What one pair adds to those that are near. -/
def nearAdd (a x y : Int) : List Int := if x = a ∧ y ≠ a then [y] else []
def nearRaw (a : Int) (L : List S34) : List Int := L.flatMap fun p => nearAdd a p.f0 p.f1 ++ nearAdd a p.f1 p.f0
def nearL (L : List S34) (a : Int) : List Int := Lib.compact ((nearRaw a L).mergeSort fun x y => decide (x ≤ y))
def why_Near.f (k : Nat) (E : List Int) (L : List S34) (V : List Int) (a : Int) : Option (List Int) := if L.length ≤ 1000000 then some (nearL L a) else none
theorem why_Near.mono : ∀ a0 a1 a2 a3 k, LeO (why_Near.f k a0 a1 a2 a3) (why_Near.f (k + 1) a0 a1 a2 a3) := fun _ _ _ _ _ => LeO.refl _
theorem nearAdd_len (a x y : Int) : (nearAdd a x y).length ≤ 1 := by
  unfold nearAdd
  split <;> simp
theorem nearRaw_take (a : Int) (L : List S34) (j : Nat) (h : j < L.length) : nearRaw a (L.take (j + 1)) = nearRaw a (L.take j) ++ nearAdd a (rd_T34 L (j : Int)).f0 (rd_T34 L (j : Int)).f1 ++ nearAdd a (rd_T34 L (j : Int)).f1 (rd_T34 L (j : Int)).f0 := by
  have e : rd_T34 L (j : Int) = L[j] := by
    show L.getD j _ = _
    rw [List.getD_eq_getElem?_getD, List.getElem?_eq_getElem h]
    rfl
  unfold nearRaw
  rw [e, List.take_add_one, List.getElem?_eq_getElem h, List.flatMap_append, List.append_assoc]
  simp
theorem nearRaw_len (a : Int) : ∀ (L : List S34), (nearRaw a L).length ≤ 2 * L.length
  | [] => Nat.le_refl _
  | p :: r => by
    have h1 := nearAdd_len a p.f0 p.f1
    have h2 := nearAdd_len a p.f1 p.f0
    have h3 := nearRaw_len a r
    unfold nearRaw at *
    rw [List.flatMap_cons, List.length_append, List.length_append, List.length_cons]
    omega
theorem near_info : (Try.prog.info? 3).map (fun i => (i.zero, i.size, i.bytes)) = some (some (.int .i64 0), 1, 8) := by kernel_rfl
theorem near_E : ∀ q, q ∈ 3 :: (Kd.int .i64).E → q ≠ 24 := by
  intro q hq
  rcases List.mem_cons.1 hq with rfl | h
  · decide
  · cases h
/-- The rounds' state: the graph's and the number's boxes; the row's box, with what it holds. -/
structure NearSt (w : World) (s0 s1 s2 : Value) (a : Int) (xs : List Int) (wr : World) : Prop where
  g : wr.heap[w.heap.size]? = some (.cells #[s0, s1, s2] 51 (0, 0))
  a : wr.heap[w.heap.size + 1]? = some (.cells #[.int .i64 a] 3 (0, 0))
  l : ∃ v, wr.heap[w.heap.size + 2]? = some (.cells #[v] 24 (0, 0)) ∧ Kd.R (Kd.int .i64) 3 wr (w.heap.size + 3) (fun _ => True) v xs
  sz : w.heap.size + 3 ≤ wr.heap.size
  below : Below w.heap.size w wr
theorem ns_step {w : World} {s0 s1 s2 : Value} {a : Int} {xs : List Int} {wr w1 : World} (h : NearSt w s0 s1 s2 a xs wr) (hb : Below wr.heap.size wr w1) : NearSt w s0 s1 s2 a xs w1 := by
  have hs := h.sz
  obtain ⟨v, hv, hr⟩ := h.l
  exact ⟨(hb.block _ (by omega)).trans h.g, (hb.block _ (by omega)).trans h.a, ⟨v, (hb.block _ (by omega)).trans hv, Kd.R_below hr hb⟩, Nat.le_trans hs hb.size, below_then h.below h.below.size hb⟩
set_option maxHeartbeats 4000000 in
set_option maxRecDepth 100000 in
theorem near_add (w : World) (s0 s1 s2 : Value) (a x y : Int) (xs : List Int) (wr : World) (h : NearSt w s0 s1 s2 a xs wr) (hl : xs.length ≤ 10000000) :
    Calls Try.prog 76 #[.int .i64 x, .int .i64 y, .pointer (some ⟨w.heap.size + 1, 0, none⟩), .pointer (some ⟨w.heap.size + 2, 0, none⟩)] wr fun e w' => e = .returned (.tuple #[]) ∧ NearSt w s0 s1 s2 a (xs ++ nearAdd a x y) w' ∧ ∀ (k : Nat) (cs : Array Value), wr.heap[k]? = some (.cells cs 34 (0, 0)) → w'.heap[k]? = wr.heap[k]? := by
  have hu24 := Try.underlying24
  obtain ⟨v, hv, hr⟩ := h.l
  have q1 : wr.cell? ⟨w.heap.size + 1, 0, none⟩ = some (.int .i64 a) := mb_cell1 h.a
  have q2 : wr.cell? ⟨w.heap.size + 2, 0, none⟩ = some v := mb_cell1 hv
  have HS := Lib.hid h
  have HV := Lib.hid hv
  have HR := Aside0.mk hr
  clear hr hv h
  by_cases h1 : x = a
  · subst h1
    by_cases h2 : y = x
    · subst h2
      have hn : nearAdd y y y = [] := by unfold nearAdd; rw [if_neg (by simp)]
      rw [hn, List.append_nil]
      go_enter Try.func76, Try.ntmps76
      go_wp2
      go_end0
      exact ⟨rfl, ns_step HS.out (by first | exact Below.refl _ _ | exact below_drew (Below.refl _ _)), fun _ _ _ => rfl⟩
    · have hn : nearAdd x x y = [y] := by unfold nearAdd; rw [if_pos ⟨rfl, h2⟩]
      have b2 : (y == x) = false := beq_eq_false_iff_ne.2 h2
      rw [hn]
      clear h2
      have hsz := HS.out.sz
      go_enter Try.func76, Try.ntmps76
      go_wp2_with (at_builtin; refine Kd.R_append (Kd.int .i64) (w0 := wr) (w.heap.size + 3) rfl _ _ 24 3 (.int .i64 0) 8 rfl Try.underlying24 near_info rfl (by decide) (by decide) v xs (y : Int) [.int .i64 y] (fun _ => True) (fun _ => False) rfl rfl (where_tok _ _ _ _) (fun _ h_ => h_.elim) (fun _ _ => trivial) HR.out (Below.refl _ _) hsz ?hl ?hk)
      case hl => omega
      case hk =>
        intro v1 w3 ho hb hgr hat
        obtain ⟨Av, cv, rfl⟩ := Kd.R_slice ho
        have HA := Aside0.mk ho
        clear ho
        generalize (xs ++ [y]).length = nv at *
        have ho := HA.out
        clear HA
        have h1 := (hb.block (w.heap.size + 1) (by omega)).trans HS.out.a
        have h2 := (hb.block (w.heap.size + 2) (by omega)).trans HV.out
        have h0 := (hb.block w.heap.size (by omega)).trans HS.out.g
        have q3 : w3.cell? ⟨w.heap.size + 2, 0, none⟩ = some v := mb_cell1 h2
        have f3 := blk_frozen h2 0
        have hs3 : w.heap.size + 3 ≤ w3.heap.size := Nat.le_trans hsz hb.size
        have H4 := Aside0.mk (show NearSt w s0 s1 s2 x (xs ++ [y]) (w3.setCell ⟨w.heap.size + 2, 0, none⟩ (.slice Av nv cv)) from
          ⟨blk_far h0 (by show w.heap.size ≠ w.heap.size + 2; omega) _, blk_far h1 (by show w.heap.size + 1 ≠ w.heap.size + 2; omega) _, ⟨.slice Av nv cv, blk_put h2 0 _ rfl, Kd.R_set ho h2 near_E 0 _⟩, by simpa using hs3, below_set (g := w.heap.size + 2) (j := 0) (v := .slice Av nv cv) (HS.out.below.trans (hb.mono (by omega))) (by omega)⟩)
        have HK := Aside0.mk (show ∀ (k : Nat) (cs : Array Value), wr.heap[k]? = some (.cells cs 34 (0, 0)) → (w3.setCell ⟨w.heap.size + 2, 0, none⟩ (.slice Av nv cv)).heap[k]? = wr.heap[k]? from fun k cs hk => by
          have hne : k ≠ w.heap.size + 2 := by
            rintro rfl
            rw [HV.out] at hk
            cases hk
          have hno : some k ≠ v.ownBlock := by
            intro e
            obtain ⟨_, inner, hown, _⟩ := HR.out
            obtain ⟨cells, hc⟩ := own_typed hown k e.symm
            rw [hk] at hc
            cases hc
          have h3 := hgr.block k (blk_lt hk) hno
          rw [← h3]
          exact blk_far (by rw [h3]; exact hk) hne _ |>.trans (by rw [h3]; exact hk.symm))
        clear ho hb hgr hat h1 h2 h0 hs3
        go_wp2
        go_end0
        exact ⟨rfl, H4.out, HK.out⟩
  · have hn : nearAdd a x y = [] := by unfold nearAdd; rw [if_neg (fun h => h1 h.1)]
    have b1 : (x == a) = false := beq_eq_false_iff_ne.2 h1
    rw [hn, List.append_nil]
    clear h1
    go_enter Try.func76, Try.ntmps76
    go_wp2
    go_end0
    exact ⟨rfl, ns_step HS.out (by first | exact Below.refl _ _ | exact below_drew (Below.refl _ _)), fun _ _ _ => rfl⟩
set_option maxHeartbeats 4000000 in
set_option maxRecDepth 100000 in
theorem why_Near.calls (k : Nat) (A0_0 : Option Addr) (c0_0 : Nat) (l0_0 : List Int) (A0_1 : Option Addr) (c0_1 : Nat) (l0_1 : List S34) (A0_2 : Option Addr) (c0_2 : Nat) (l0_2 : List Int) (a1 : Int) (r : List Int) (w : World)
    (hr0_0 : Kd.C (Kd.int .i64) w A0_0 l0_0.length l0_0) (hc0_0 : l0_0.length ≤ c0_0) (hr0_1 : Kd.C k34 w A0_1 l0_1.length l0_1) (hc0_1 : l0_1.length ≤ c0_1) (hr0_2 : Kd.C (Kd.int .i64) w A0_2 l0_2.length l0_2) (hc0_2 : l0_2.length ≤ c0_2) (h : why_Near.f k l0_0 l0_1 l0_2 a1 = some r) :
    Calls Try.prog 43 #[.agg #[.slice A0_0 l0_0.length c0_0, .slice A0_1 l0_1.length c0_1, .slice A0_2 l0_2.length c0_2], .int .i64 a1] w fun e w' => ∃ v0_ : Value, e = .returned (v0_) ∧ Kd.R (Kd.int .i64) 3 w' w.heap.size (fun _ => True) v0_ r ∧ Below w.heap.size w w' := by
  have hu51 := Try.underlying51
  have hu34 := Try.underlying34
  have hu22 := Try.underlying22
  have hu24 := Try.underlying24
  unfold why_Near.f at h
  by_cases hok : l0_1.length ≤ 1000000
  · rw [if_pos hok] at h
    obtain rfl := Option.some.inj h
    clear h hr0_0 hr0_2 hc0_0 hc0_2
    have HC1 := Aside0.mk hr0_1
    clear hr0_1
    obtain ⟨nL, hnL⟩ : ∃ nL, l0_1.length = nL := ⟨_, rfl⟩
    rw [hnL] at hok hc0_1 ⊢
    have HN := Lib.hid hnL
    clear hnL
    generalize hs0 : Value.slice A0_0 l0_0.length c0_0 = s0 at *
    generalize hs2 : Value.slice A0_2 l0_2.length c0_2 = s2 at *
    clear hs0 hs2
    have hmax : nL ≤ 9223372036854775807 := by omega
    obtain ⟨W3, hW3⟩ : ∃ W3, ((w.alloc (.cells #[s0, .slice A0_1 nL c0_1, s2] 51)).alloc (.cells #[.int .i64 a1] 3)).alloc (.cells #[.slice none 0 0] 24) = W3 := ⟨_, rfl⟩
    have HW3 := Lib.hid hW3
    have hsz : W3.heap.size = w.heap.size + 3 := by rw [← hW3]; simp
    have hS0 : NearSt w s0 (.slice A0_1 nL c0_1) s2 a1 (nearRaw a1 (l0_1.take 0)) W3 := by
      refine ⟨?_, ?_, ⟨.slice none 0 0, ?_, Kd.R_nil _ _ _ _ _⟩, by omega, by rw [← hW3]; exact below_alloc (below_alloc (below_alloc (Below.refl _ _) _) _) _⟩
      · rw [← hW3]; exact blk_alloc (blk_alloc (blk_new w _) _) _
      · rw [← hW3]
        have := blk_alloc (blk_new (w.alloc (.cells #[s0, .slice A0_1 nL c0_1, s2] 51)) (.cells #[.int .i64 a1] 3)) (.cells #[.slice none 0 0] 24)
        simpa only [World.size_alloc] using this
      · rw [← hW3]
        have := blk_new ((w.alloc (.cells #[s0, .slice A0_1 nL c0_1, s2] 51)).alloc (.cells #[.int .i64 a1] 3)) (.cells #[.slice none 0 0] 24)
        simpa only [World.size_alloc] using this
    have HS0 := Aside0.mk hS0
    clear hW3 hsz hS0
    go_enter Try.func43, Try.ntmps43
    go_wp2_with fail
    all_goals rw [HW3.out]
    all_goals
      go_loopg [8, 13] nL (fun gg _ s13 wr => ∃ j : Nat, s13 = .int .i64 j ∧ j ≤ nL ∧ nL - j ≤ gg ∧ Aside0 (NearSt w s0 (.slice A0_1 nL c0_1) s2 a1 (nearRaw a1 (l0_1.take j)) wr))
      case atStart => exact ⟨0, rfl, by omega, by omega, HS0⟩
      case round =>
        clear HS0
        obtain ⟨j, rfl, hj, hgj, HS⟩ := hrel
        by_cases hlt : j < nL
        · have hltz : (j : Int) < (nL : Int) := by omega
          obtain ⟨ad1, ead1, hx0, hx1⟩ := at_T34 (Kd.C_below HC1.out HS.out.below) (j : Int) (by omega) (by rw [HN.out]; omega)
          rw [Int.toNat_natCast] at hx0 hx1
          have HSN := Lib.hid (nearRaw_take a1 l0_1 j (by rw [HN.out]; exact hlt))
          have hll : (nearRaw a1 (l0_1.take j)).length ≤ 2 * j := by
            refine Nat.le_trans (nearRaw_len _ _) ?_
            rw [List.length_take]
            omega
          obtain ⟨l, hl⟩ : ∃ l, nearRaw a1 (l0_1.take j) = l := ⟨_, rfl⟩
          rw [hl] at HS HSN hll
          clear hl
          generalize rd_T34 l0_1 (j : Int) = x at hx0 hx1 HSN
          obtain ⟨a, b⟩ := x
          dsimp only at hx0 hx1 HSN
          cases ead1
          have HS4 := Aside0.mk (ns_step HS.out (below_alloc (Below.refl _ _) (.cells #[.int .i64 a, .int .i64 b] 34)))
          have hszr := HS.out.sz
          clear HS
          go_wp2_with fail
          refine (near_add w s0 _ s2 a1 a b l _ HS4.out (by omega)).mono ?_
          rintro e w4 ⟨rfl, h4, hk4⟩
          have hle := nearAdd_len a1 a b
          have HS5 := Aside0.mk h4
          have hblk : (wr.alloc (.cells #[.int .i64 a, .int .i64 b] 34)).heap[wr.heap.size]? = some (.cells #[.int .i64 a, .int .i64 b] 34 (0, 0)) := blk_new wr _
          have hb4 := (hk4 _ _ hblk).trans hblk
          have y0 : w4.cell? ⟨wr.heap.size, 0, none⟩ = some (.int .i64 a) := by unfold World.cell?; rw [hb4]; rfl
          have y1 : w4.cell? ⟨wr.heap.size, 1, none⟩ = some (.int .i64 b) := by unfold World.cell?; rw [hb4]; rfl
          clear h4 HS4 hk4 hblk hb4
          go_wp2_with fail
          refine (near_add w s0 _ s2 a1 b a _ _ HS5.out (by rw [List.length_append]; omega)).mono ?_
          rintro e w5 ⟨rfl, h5, -⟩
          have HS6 := Aside0.mk h5
          clear h5 HS5
          go_wp2
          go_roundg (nL - (j + 1))
          case measure => omega
          case rel => exact ⟨j + 1, by go_num, by omega, Nat.le_refl _, ⟨by rw [HSN.out]; exact HS6.out⟩⟩
        · have hltz : ¬ (j : Int) < (nL : Int) := by omega
          obtain rfl : j = nL := by omega
          have hall : nearRaw a1 (l0_1.take j) = nearRaw a1 l0_1 := by rw [List.take_of_length_le (by rw [HN.out]; exact Nat.le_refl _)]
          rw [hall] at HS
          clear hall
          obtain ⟨v, hv, hr⟩ := HS.out.l
          have q2 : wr.cell? ⟨w.heap.size + 2, 0, none⟩ = some v := mb_cell1 hv
          have hrl := nearRaw_len a1 l0_1
          have HSO := Aside0.mk (sort_int v _ _ _ wr hr (by rw [HN.out] at hrl; omega))
          have hr0 := Aside0.mk hr
          clear hr hrl
          go_wp2_with fail
          refine HSO.out.mono ?_
          rintro e w4 ⟨rfl, hr4, hg4⟩
          have hsz := HS.out.sz
          have hno : some (w.heap.size + 2) ≠ v.ownBlock := by
            intro e
            obtain ⟨_, inner, hown, _⟩ := hr0.out
            obtain ⟨cells, hc⟩ := own_typed hown _ e.symm
            rw [hv] at hc
            cases hc
          have q4 : w4.cell? ⟨w.heap.size + 2, 0, none⟩ = some v := mb_cell1 ((hg4.block _ (by omega) hno).trans hv)
          have hb4 : Below w.heap.size w w4 := HS.out.below.trans ⟨hg4.os, hg4.tape, hg4.output, Nat.le_trans HS.out.below.size hg4.size |> fun _ => hg4.size, fun k hk => hg4.block k (Nat.lt_of_lt_of_le hk HS.out.below.size) (fun e => by
            obtain ⟨_, inner, hown, _⟩ := hr0.out
            obtain ⟨h1, h2⟩ := hown
            rcases h2 with ⟨rfl, _⟩ | ⟨g', cap', cur, rfl, hb, _⟩
            · cases e
            · simp only [Value.ownBlock, Option.some.injEq] at e
              omega)⟩
          have HCP := Aside0.mk (compact_int v _ _ _ w4 hr4 (by rw [List.length_mergeSort]; have := nearRaw_len a1 l0_1; rw [HN.out] at this; omega))
          have HB4 := Aside0.mk hb4
          have HR4 := Aside0.mk hr4
          clear hb4 hr4 hg4 hno hsz hv HSO q2
          go_wp2_with fail
          refine HCP.out.mono ?_
          rintro e w5 ⟨v1, rfl, hr5, hg5⟩
          have HR5 := Aside0.mk hr5
          have HB5 := Aside0.mk (show Below w.heap.size w w5 from HB4.out.trans ⟨hg5.os, hg5.tape, hg5.output, hg5.size, fun k hk => hg5.block k (Nat.lt_of_lt_of_le hk HB4.out.size) (fun e => by
            obtain ⟨_, inner, hown, _⟩ := HR4.out
            obtain ⟨h1, h2⟩ := hown
            rcases h2 with ⟨rfl, _⟩ | ⟨g', cap', cur, rfl, hb, _⟩
            · cases e
            · simp only [Value.ownBlock, Option.some.injEq] at e
              omega)⟩)
          clear hr5 hg5 HCP q4
          go_wp2
          go_ret
          exact ⟨_, rfl, Kd.R_lower HR5.out (by omega), HB5.out⟩
  · rw [if_neg hok] at h
    cases h



/-! ### why_edges: function 70 -/
def why_edges.f (l0_0 : List Int) (l0_1 : List (S34)) (l0_2 : List Int) (a1 : Int) (a2 : Int) : Option (Int × Int × Bool) := if (mn a1 a2) < 0 then (some (0, 0, false)) else (if (mx a1 a2) ≥ (l0_0.length : Int) then (some (0, 0, false)) else (if 0 ≤ a1 then (if a1 < (l0_0.length : Int) then (if 0 ≤ a2 then (if a2 < (l0_0.length : Int) then (some (rd l0_0 a1, rd l0_0 a2, true)) else (none)) else (none)) else (none)) else (none)))
set_option maxHeartbeats 8000000 in
set_option maxRecDepth 100000 in
theorem why_edges.calls (A0_0 : Option Addr) (c0_0 : Nat) (l0_0 : List Int) (A0_1 : Option Addr) (c0_1 : Nat) (l0_1 : List (S34)) (A0_2 : Option Addr) (c0_2 : Nat) (l0_2 : List Int) (a1 : Int) (a2 : Int) (r1 : Int) (r2 : Int) (r3 : Bool) (w : World) (hr0_0 : Kd.C (Kd.int .i64) w A0_0 l0_0.length l0_0) (hc0_0 : l0_0.length ≤ c0_0) (hr0_1 : Kd.C k34 w A0_1 l0_1.length l0_1) (hc0_1 : l0_1.length ≤ c0_1) (hr0_2 : Kd.C (Kd.int .i64) w A0_2 l0_2.length l0_2) (hc0_2 : l0_2.length ≤ c0_2) (h : why_edges.f l0_0 l0_1 l0_2 a1 a2 = some (r1, r2, r3)) :
    Calls Try.prog 70 #[.agg #[.slice A0_0 l0_0.length c0_0, .slice A0_1 l0_1.length c0_1, .slice A0_2 l0_2.length c0_2], .int .i64 a1, .int .i64 a2] w fun e w' => e = .returned (.tuple #[.int .i64 r1, .int .i64 r2, .bool r3]) ∧ Below w.heap.size w w' := by
  have hu51 := Try.underlying51
  have HR0_0 := Aside0.mk hr0_0
  have HC0_0 := Aside0.mk hc0_0
  clear hr0_0 hc0_0
  have HR0_1 := Aside0.mk hr0_1
  have HC0_1 := Aside0.mk hc0_1
  clear hr0_1 hc0_1
  have HR0_2 := Aside0.mk hr0_2
  have HC0_2 := Aside0.mk hc0_2
  clear hr0_2 hc0_2
  have HB := Aside0.mk (Below.refl w.heap.size w)
  have H : (if (mn a1 a2) < 0 then (some (0, 0, false)) else (if (mx a1 a2) ≥ (l0_0.length : Int) then (some (0, 0, false)) else (if 0 ≤ a1 then (if a1 < (l0_0.length : Int) then (if 0 ≤ a2 then (if a2 < (l0_0.length : Int) then (some (rd l0_0 a1, rd l0_0 a2, true)) else (none)) else (none)) else (none)) else (none)))) = some (r1, r2, r3) := h
  clear h
  obtain ⟨ji4, hji4⟩ : ∃ j_ : Int, (mn a1 a2) = j_ := ⟨_, rfl⟩
  replace H : (if (ji4) < 0 then (some (0, 0, false)) else (if (mx a1 a2) ≥ (l0_0.length : Int) then (some (0, 0, false)) else (if 0 ≤ a1 then (if a1 < (l0_0.length : Int) then (if 0 ≤ a2 then (if a2 < (l0_0.length : Int) then (some (rd l0_0 a1, rd l0_0 a2, true)) else (none)) else (none)) else (none)) else (none)))) = some (r1, r2, r3) := by first | (rw [hji4] at H; exact H) | (simp only [hji4] at H ⊢; exact H)
  have hji4_ : (if a2 < a1 then a2 else a1) = ji4 := hji4
  by_cases c5 : (ji4) < 0
  · rw [if_pos c5] at H
    have c5b0 : decide ((ji4) < 0) = true := decide_eq_true c5
    clear c5
    simp only [Option.some.injEq, Prod.mk.injEq] at H
    obtain ⟨rfl, rfl, rfl⟩ := H
    go_enter Try.func70, Try.ntmps70
    go_wp2_with (first | ((with_reducible refine gate_dst (N := 3) rfl ?_); (try (refine gate_guard (by rfl) ?_; dsimp only)); refine box_event ?hg (N := 3) ?hd (cs := #[.slice A0_0 l0_0.length c0_0, .slice A0_1 l0_1.length c0_1, .slice A0_2 l0_2.length c0_2]) (t := 51) ?hr ?_; (case hd => rfl); (case hg => rfl); (case hr => first | (go_simp; done) | (go_simp; rfl)); intro gb104 hg w6 hbox hb; have n0_ := Aside0.mk (below_step (by repeat (first | (with_reducible first | exact HB.out | apply below_alloc | apply pw_below_drewN | apply below_drew1) | exact HB.out)) hb); have n1_ := Aside0.mk (hbox); have n2_ := Aside0.mk ((by rw [hg]; exact (below_size (by repeat (first | (with_reducible first | exact HB.out | apply below_alloc | apply pw_below_drewN | apply below_drew1) | exact HB.out))) : w.heap.size ≤ gb104)); have n3_ := Aside0.mk ((by rw [hg]; exact (below_size (by repeat (first | (with_reducible first | exact HB.out | apply below_alloc | apply pw_below_drewN | apply below_drew1) | exact HB.out))) : w.heap.size ≤ gb104)); clear HB; have HB := n0_; have BK104 := n1_; have GW104 := n2_; have GE104 := n3_; clear n0_ n1_ n2_ n3_; clear hb hbox hg))
    repeat (go_quiet (first | ((with_reducible refine gate_dst (N := 3) rfl ?_); (try (refine gate_guard (by rfl) ?_; dsimp only)); refine box_event ?hg (N := 3) ?hd (cs := #[.slice A0_0 l0_0.length c0_0, .slice A0_1 l0_1.length c0_1, .slice A0_2 l0_2.length c0_2]) (t := 51) ?hr ?_; (case hd => rfl); (case hg => rfl); (case hr => first | (go_simp; done) | (go_simp; rfl)); intro gb104 hg w6 hbox hb; have n0_ := Aside0.mk (below_step (by repeat (first | (with_reducible first | exact HB.out | apply below_alloc | apply pw_below_drewN | apply below_drew1) | exact HB.out)) hb); have n1_ := Aside0.mk (hbox); have n2_ := Aside0.mk ((by rw [hg]; exact (below_size (by repeat (first | (with_reducible first | exact HB.out | apply below_alloc | apply pw_below_drewN | apply below_drew1) | exact HB.out))) : w.heap.size ≤ gb104)); have n3_ := Aside0.mk ((by rw [hg]; exact (below_size (by repeat (first | (with_reducible first | exact HB.out | apply below_alloc | apply pw_below_drewN | apply below_drew1) | exact HB.out))) : w.heap.size ≤ gb104)); clear HB; have HB := n0_; have BK104 := n1_; have GW104 := n2_; have GE104 := n3_; clear n0_ n1_ n2_ n3_; clear hb hbox hg)); try go_wp2_with (first | ((with_reducible refine gate_dst (N := 3) rfl ?_); (try (refine gate_guard (by rfl) ?_; dsimp only)); refine box_event ?hg (N := 3) ?hd (cs := #[.slice A0_0 l0_0.length c0_0, .slice A0_1 l0_1.length c0_1, .slice A0_2 l0_2.length c0_2]) (t := 51) ?hr ?_; (case hd => rfl); (case hg => rfl); (case hr => first | (go_simp; done) | (go_simp; rfl)); intro gb104 hg w6 hbox hb; have n0_ := Aside0.mk (below_step (by repeat (first | (with_reducible first | exact HB.out | apply below_alloc | apply pw_below_drewN | apply below_drew1) | exact HB.out)) hb); have n1_ := Aside0.mk (hbox); have n2_ := Aside0.mk ((by rw [hg]; exact (below_size (by repeat (first | (with_reducible first | exact HB.out | apply below_alloc | apply pw_below_drewN | apply below_drew1) | exact HB.out))) : w.heap.size ≤ gb104)); have n3_ := Aside0.mk ((by rw [hg]; exact (below_size (by repeat (first | (with_reducible first | exact HB.out | apply below_alloc | apply pw_below_drewN | apply below_drew1) | exact HB.out))) : w.heap.size ≤ gb104)); clear HB; have HB := n0_; have BK104 := n1_; have GW104 := n2_; have GE104 := n3_; clear n0_ n1_ n2_ n3_; clear hb hbox hg)))
    go_ret3
    exact ⟨by first | rfl | (simp [errW_none, errW_some] <;> rfl) | (simp only [← hji4]; first | rfl | (simp [errW_none, errW_some] <;> rfl)) | (simp [*, errW_none, errW_some] <;> rfl), by repeat (first | (with_reducible first | exact HB.out | apply below_alloc | apply pw_below_drewN | apply below_drew1 | refine below_set ?_ GE104.out) | exact HB.out)⟩
  · rw [if_neg c5] at H
    have c5b0 : decide ((ji4) < 0) = false := decide_eq_false c5
    clear c5
    obtain ⟨ji7, hji7⟩ : ∃ j_ : Int, (mx a1 a2) = j_ := ⟨_, rfl⟩
    replace H : (if (ji7) ≥ (l0_0.length : Int) then (some (0, 0, false)) else (if 0 ≤ a1 then (if a1 < (l0_0.length : Int) then (if 0 ≤ a2 then (if a2 < (l0_0.length : Int) then (some (rd l0_0 a1, rd l0_0 a2, true)) else (none)) else (none)) else (none)) else (none))) = some (r1, r2, r3) := by first | (rw [hji7] at H; exact H) | (simp only [hji7] at H ⊢; exact H)
    have hji7_ : (if a1 < a2 then a2 else a1) = ji7 := hji7
    by_cases c8 : (ji7) ≥ (l0_0.length : Int)
    · rw [if_pos c8] at H
      have c8b0 : decide ((l0_0.length : Int) ≤ (ji7)) = true := decide_eq_true c8
      clear c8
      simp only [Option.some.injEq, Prod.mk.injEq] at H
      obtain ⟨rfl, rfl, rfl⟩ := H
      go_enter Try.func70, Try.ntmps70
      go_wp2_with (first | ((with_reducible refine gate_dst (N := 3) rfl ?_); (try (refine gate_guard (by rfl) ?_; dsimp only)); refine box_event ?hg (N := 3) ?hd (cs := #[.slice A0_0 l0_0.length c0_0, .slice A0_1 l0_1.length c0_1, .slice A0_2 l0_2.length c0_2]) (t := 51) ?hr ?_; (case hd => rfl); (case hg => rfl); (case hr => first | (go_simp; done) | (go_simp; rfl)); intro gb104 hg w9 hbox hb; have n0_ := Aside0.mk (below_step (by repeat (first | (with_reducible first | exact HB.out | apply below_alloc | apply pw_below_drewN | apply below_drew1) | exact HB.out)) hb); have n1_ := Aside0.mk (hbox); have n2_ := Aside0.mk ((by rw [hg]; exact (below_size (by repeat (first | (with_reducible first | exact HB.out | apply below_alloc | apply pw_below_drewN | apply below_drew1) | exact HB.out))) : w.heap.size ≤ gb104)); have n3_ := Aside0.mk ((by rw [hg]; exact (below_size (by repeat (first | (with_reducible first | exact HB.out | apply below_alloc | apply pw_below_drewN | apply below_drew1) | exact HB.out))) : w.heap.size ≤ gb104)); clear HB; have HB := n0_; have BK104 := n1_; have GW104 := n2_; have GE104 := n3_; clear n0_ n1_ n2_ n3_; clear hb hbox hg; have hcz10_0 : w9.cell? ⟨gb104, 0, none⟩ = some (.slice A0_0 l0_0.length c0_0) := (blk_cell BK104.out 0).trans rfl; have hcz10_1 : w9.cell? ⟨gb104, 1, none⟩ = some (.slice A0_1 l0_1.length c0_1) := (blk_cell BK104.out 1).trans rfl; have hcz10_2 : w9.cell? ⟨gb104, 2, none⟩ = some (.slice A0_2 l0_2.length c0_2) := (blk_cell BK104.out 2).trans rfl; have hfz10_0 := blk_frozen BK104.out 0; have hfz10_1 := blk_frozen BK104.out 1; have hfz10_2 := blk_frozen BK104.out 2))
      repeat (go_quiet (first | ((with_reducible refine gate_dst (N := 3) rfl ?_); (try (refine gate_guard (by rfl) ?_; dsimp only)); refine box_event ?hg (N := 3) ?hd (cs := #[.slice A0_0 l0_0.length c0_0, .slice A0_1 l0_1.length c0_1, .slice A0_2 l0_2.length c0_2]) (t := 51) ?hr ?_; (case hd => rfl); (case hg => rfl); (case hr => first | (go_simp; done) | (go_simp; rfl)); intro gb104 hg w9 hbox hb; have n0_ := Aside0.mk (below_step (by repeat (first | (with_reducible first | exact HB.out | apply below_alloc | apply pw_below_drewN | apply below_drew1) | exact HB.out)) hb); have n1_ := Aside0.mk (hbox); have n2_ := Aside0.mk ((by rw [hg]; exact (below_size (by repeat (first | (with_reducible first | exact HB.out | apply below_alloc | apply pw_below_drewN | apply below_drew1) | exact HB.out))) : w.heap.size ≤ gb104)); have n3_ := Aside0.mk ((by rw [hg]; exact (below_size (by repeat (first | (with_reducible first | exact HB.out | apply below_alloc | apply pw_below_drewN | apply below_drew1) | exact HB.out))) : w.heap.size ≤ gb104)); clear HB; have HB := n0_; have BK104 := n1_; have GW104 := n2_; have GE104 := n3_; clear n0_ n1_ n2_ n3_; clear hb hbox hg; have hcz10_0 : w9.cell? ⟨gb104, 0, none⟩ = some (.slice A0_0 l0_0.length c0_0) := (blk_cell BK104.out 0).trans rfl; have hcz10_1 : w9.cell? ⟨gb104, 1, none⟩ = some (.slice A0_1 l0_1.length c0_1) := (blk_cell BK104.out 1).trans rfl; have hcz10_2 : w9.cell? ⟨gb104, 2, none⟩ = some (.slice A0_2 l0_2.length c0_2) := (blk_cell BK104.out 2).trans rfl; have hfz10_0 := blk_frozen BK104.out 0; have hfz10_1 := blk_frozen BK104.out 1; have hfz10_2 := blk_frozen BK104.out 2)); try go_wp2_with (first | ((with_reducible refine gate_dst (N := 3) rfl ?_); (try (refine gate_guard (by rfl) ?_; dsimp only)); refine box_event ?hg (N := 3) ?hd (cs := #[.slice A0_0 l0_0.length c0_0, .slice A0_1 l0_1.length c0_1, .slice A0_2 l0_2.length c0_2]) (t := 51) ?hr ?_; (case hd => rfl); (case hg => rfl); (case hr => first | (go_simp; done) | (go_simp; rfl)); intro gb104 hg w9 hbox hb; have n0_ := Aside0.mk (below_step (by repeat (first | (with_reducible first | exact HB.out | apply below_alloc | apply pw_below_drewN | apply below_drew1) | exact HB.out)) hb); have n1_ := Aside0.mk (hbox); have n2_ := Aside0.mk ((by rw [hg]; exact (below_size (by repeat (first | (with_reducible first | exact HB.out | apply below_alloc | apply pw_below_drewN | apply below_drew1) | exact HB.out))) : w.heap.size ≤ gb104)); have n3_ := Aside0.mk ((by rw [hg]; exact (below_size (by repeat (first | (with_reducible first | exact HB.out | apply below_alloc | apply pw_below_drewN | apply below_drew1) | exact HB.out))) : w.heap.size ≤ gb104)); clear HB; have HB := n0_; have BK104 := n1_; have GW104 := n2_; have GE104 := n3_; clear n0_ n1_ n2_ n3_; clear hb hbox hg; have hcz10_0 : w9.cell? ⟨gb104, 0, none⟩ = some (.slice A0_0 l0_0.length c0_0) := (blk_cell BK104.out 0).trans rfl; have hcz10_1 : w9.cell? ⟨gb104, 1, none⟩ = some (.slice A0_1 l0_1.length c0_1) := (blk_cell BK104.out 1).trans rfl; have hcz10_2 : w9.cell? ⟨gb104, 2, none⟩ = some (.slice A0_2 l0_2.length c0_2) := (blk_cell BK104.out 2).trans rfl; have hfz10_0 := blk_frozen BK104.out 0; have hfz10_1 := blk_frozen BK104.out 1; have hfz10_2 := blk_frozen BK104.out 2)))
      go_ret3
      exact ⟨by first | rfl | (simp [errW_none, errW_some] <;> rfl) | (simp only [← hji4, ← hji7]; first | rfl | (simp [errW_none, errW_some] <;> rfl)) | (simp [*, errW_none, errW_some] <;> rfl), by repeat (first | (with_reducible first | exact HB.out | apply below_alloc | apply pw_below_drewN | apply below_drew1 | refine below_set ?_ GE104.out) | exact HB.out)⟩
    · rw [if_neg c8] at H
      have c8b0 : decide ((l0_0.length : Int) ≤ (ji7)) = false := decide_eq_false c8
      clear c8
      by_cases c11 : 0 ≤ a1
      · rw [if_pos c11] at H
        have c11b0 : decide (0 ≤ a1) = true := decide_eq_true c11
        clear c11
        by_cases c12 : a1 < (l0_0.length : Int)
        · rw [if_pos c12] at H
          have c12b0 : decide (a1 < (l0_0.length : Int)) = true := decide_eq_true c12
          clear c12
          by_cases c13 : 0 ≤ a2
          · rw [if_pos c13] at H
            have c13b0 : decide (0 ≤ a2) = true := decide_eq_true c13
            clear c13
            by_cases c14 : a2 < (l0_0.length : Int)
            · rw [if_pos c14] at H
              have c14b0 : decide (a2 < (l0_0.length : Int)) = true := decide_eq_true c14
              clear c14
              simp only [Option.some.injEq, Prod.mk.injEq] at H
              obtain ⟨rfl, rfl, rfl⟩ := H
              go_enter Try.func70, Try.ntmps70
              go_wp2_with (first | ((with_reducible refine gate_dst (N := 3) rfl ?_); (try (refine gate_guard (by rfl) ?_; dsimp only)); refine box_event ?hg (N := 3) ?hd (cs := #[.slice A0_0 l0_0.length c0_0, .slice A0_1 l0_1.length c0_1, .slice A0_2 l0_2.length c0_2]) (t := 51) ?hr ?_; (case hd => rfl); (case hg => rfl); (case hr => first | (go_simp; done) | (go_simp; rfl)); intro gb104 hg w15 hbox hb; have n0_ := Aside0.mk (below_step (by repeat (first | (with_reducible first | exact HB.out | apply below_alloc | apply pw_below_drewN | apply below_drew1) | exact HB.out)) hb); have n1_ := Aside0.mk (hbox); have n2_ := Aside0.mk ((by rw [hg]; exact (below_size (by repeat (first | (with_reducible first | exact HB.out | apply below_alloc | apply pw_below_drewN | apply below_drew1) | exact HB.out))) : w.heap.size ≤ gb104)); have n3_ := Aside0.mk ((by rw [hg]; exact (below_size (by repeat (first | (with_reducible first | exact HB.out | apply below_alloc | apply pw_below_drewN | apply below_drew1) | exact HB.out))) : w.heap.size ≤ gb104)); clear HB; have HB := n0_; have BK104 := n1_; have GW104 := n2_; have GE104 := n3_; clear n0_ n1_ n2_ n3_; clear hb hbox hg; have hcz16_0 : w15.cell? ⟨gb104, 0, none⟩ = some (.slice A0_0 l0_0.length c0_0) := (blk_cell BK104.out 0).trans rfl; have hcz16_1 : w15.cell? ⟨gb104, 1, none⟩ = some (.slice A0_1 l0_1.length c0_1) := (blk_cell BK104.out 1).trans rfl; have hcz16_2 : w15.cell? ⟨gb104, 2, none⟩ = some (.slice A0_2 l0_2.length c0_2) := (blk_cell BK104.out 2).trans rfl; have hfz16_0 := blk_frozen BK104.out 0; have hfz16_1 := blk_frozen BK104.out 1; have hfz16_2 := blk_frozen BK104.out 2; have p105 : 0 ≤ (a1 : Int) := of_decide_eq_true (by first | (with_reducible assumption) | assumption); have q105 : a1 < (l0_0.length : Int) := of_decide_eq_true (by first | (with_reducible assumption) | assumption); obtain ⟨ad105, e105, hx105_0⟩ := Kd.at_int HR0_0.out a1 p105 q105; cases e105; replace hx105_0 := (HB.out.cell (World.block_lt_of_cell? w _ hx105_0)).trans hx105_0; replace p105 := eq_true p105; replace q105 := eq_true q105; have p106 : 0 ≤ (a2 : Int) := of_decide_eq_true (by first | (with_reducible assumption) | assumption); have q106 : a2 < (l0_0.length : Int) := of_decide_eq_true (by first | (with_reducible assumption) | assumption); obtain ⟨ad106, e106, hx106_0⟩ := Kd.at_int HR0_0.out a2 p106 q106; obtain rfl : ad105 = ad106 := (by injection e106); replace hx106_0 := (HB.out.cell (World.block_lt_of_cell? w _ hx106_0)).trans hx106_0; replace p106 := eq_true p106; replace q106 := eq_true q106))
              repeat (go_quiet (first | ((with_reducible refine gate_dst (N := 3) rfl ?_); (try (refine gate_guard (by rfl) ?_; dsimp only)); refine box_event ?hg (N := 3) ?hd (cs := #[.slice A0_0 l0_0.length c0_0, .slice A0_1 l0_1.length c0_1, .slice A0_2 l0_2.length c0_2]) (t := 51) ?hr ?_; (case hd => rfl); (case hg => rfl); (case hr => first | (go_simp; done) | (go_simp; rfl)); intro gb104 hg w15 hbox hb; have n0_ := Aside0.mk (below_step (by repeat (first | (with_reducible first | exact HB.out | apply below_alloc | apply pw_below_drewN | apply below_drew1) | exact HB.out)) hb); have n1_ := Aside0.mk (hbox); have n2_ := Aside0.mk ((by rw [hg]; exact (below_size (by repeat (first | (with_reducible first | exact HB.out | apply below_alloc | apply pw_below_drewN | apply below_drew1) | exact HB.out))) : w.heap.size ≤ gb104)); have n3_ := Aside0.mk ((by rw [hg]; exact (below_size (by repeat (first | (with_reducible first | exact HB.out | apply below_alloc | apply pw_below_drewN | apply below_drew1) | exact HB.out))) : w.heap.size ≤ gb104)); clear HB; have HB := n0_; have BK104 := n1_; have GW104 := n2_; have GE104 := n3_; clear n0_ n1_ n2_ n3_; clear hb hbox hg; have hcz16_0 : w15.cell? ⟨gb104, 0, none⟩ = some (.slice A0_0 l0_0.length c0_0) := (blk_cell BK104.out 0).trans rfl; have hcz16_1 : w15.cell? ⟨gb104, 1, none⟩ = some (.slice A0_1 l0_1.length c0_1) := (blk_cell BK104.out 1).trans rfl; have hcz16_2 : w15.cell? ⟨gb104, 2, none⟩ = some (.slice A0_2 l0_2.length c0_2) := (blk_cell BK104.out 2).trans rfl; have hfz16_0 := blk_frozen BK104.out 0; have hfz16_1 := blk_frozen BK104.out 1; have hfz16_2 := blk_frozen BK104.out 2; have p105 : 0 ≤ (a1 : Int) := of_decide_eq_true (by first | (with_reducible assumption) | assumption); have q105 : a1 < (l0_0.length : Int) := of_decide_eq_true (by first | (with_reducible assumption) | assumption); obtain ⟨ad105, e105, hx105_0⟩ := Kd.at_int HR0_0.out a1 p105 q105; cases e105; replace hx105_0 := (HB.out.cell (World.block_lt_of_cell? w _ hx105_0)).trans hx105_0; replace p105 := eq_true p105; replace q105 := eq_true q105; have p106 : 0 ≤ (a2 : Int) := of_decide_eq_true (by first | (with_reducible assumption) | assumption); have q106 : a2 < (l0_0.length : Int) := of_decide_eq_true (by first | (with_reducible assumption) | assumption); obtain ⟨ad106, e106, hx106_0⟩ := Kd.at_int HR0_0.out a2 p106 q106; obtain rfl : ad105 = ad106 := (by injection e106); replace hx106_0 := (HB.out.cell (World.block_lt_of_cell? w _ hx106_0)).trans hx106_0; replace p106 := eq_true p106; replace q106 := eq_true q106)); try go_wp2_with (first | ((with_reducible refine gate_dst (N := 3) rfl ?_); (try (refine gate_guard (by rfl) ?_; dsimp only)); refine box_event ?hg (N := 3) ?hd (cs := #[.slice A0_0 l0_0.length c0_0, .slice A0_1 l0_1.length c0_1, .slice A0_2 l0_2.length c0_2]) (t := 51) ?hr ?_; (case hd => rfl); (case hg => rfl); (case hr => first | (go_simp; done) | (go_simp; rfl)); intro gb104 hg w15 hbox hb; have n0_ := Aside0.mk (below_step (by repeat (first | (with_reducible first | exact HB.out | apply below_alloc | apply pw_below_drewN | apply below_drew1) | exact HB.out)) hb); have n1_ := Aside0.mk (hbox); have n2_ := Aside0.mk ((by rw [hg]; exact (below_size (by repeat (first | (with_reducible first | exact HB.out | apply below_alloc | apply pw_below_drewN | apply below_drew1) | exact HB.out))) : w.heap.size ≤ gb104)); have n3_ := Aside0.mk ((by rw [hg]; exact (below_size (by repeat (first | (with_reducible first | exact HB.out | apply below_alloc | apply pw_below_drewN | apply below_drew1) | exact HB.out))) : w.heap.size ≤ gb104)); clear HB; have HB := n0_; have BK104 := n1_; have GW104 := n2_; have GE104 := n3_; clear n0_ n1_ n2_ n3_; clear hb hbox hg; have hcz16_0 : w15.cell? ⟨gb104, 0, none⟩ = some (.slice A0_0 l0_0.length c0_0) := (blk_cell BK104.out 0).trans rfl; have hcz16_1 : w15.cell? ⟨gb104, 1, none⟩ = some (.slice A0_1 l0_1.length c0_1) := (blk_cell BK104.out 1).trans rfl; have hcz16_2 : w15.cell? ⟨gb104, 2, none⟩ = some (.slice A0_2 l0_2.length c0_2) := (blk_cell BK104.out 2).trans rfl; have hfz16_0 := blk_frozen BK104.out 0; have hfz16_1 := blk_frozen BK104.out 1; have hfz16_2 := blk_frozen BK104.out 2; have p105 : 0 ≤ (a1 : Int) := of_decide_eq_true (by first | (with_reducible assumption) | assumption); have q105 : a1 < (l0_0.length : Int) := of_decide_eq_true (by first | (with_reducible assumption) | assumption); obtain ⟨ad105, e105, hx105_0⟩ := Kd.at_int HR0_0.out a1 p105 q105; cases e105; replace hx105_0 := (HB.out.cell (World.block_lt_of_cell? w _ hx105_0)).trans hx105_0; replace p105 := eq_true p105; replace q105 := eq_true q105; have p106 : 0 ≤ (a2 : Int) := of_decide_eq_true (by first | (with_reducible assumption) | assumption); have q106 : a2 < (l0_0.length : Int) := of_decide_eq_true (by first | (with_reducible assumption) | assumption); obtain ⟨ad106, e106, hx106_0⟩ := Kd.at_int HR0_0.out a2 p106 q106; obtain rfl : ad105 = ad106 := (by injection e106); replace hx106_0 := (HB.out.cell (World.block_lt_of_cell? w _ hx106_0)).trans hx106_0; replace p106 := eq_true p106; replace q106 := eq_true q106)))
              go_ret3
              exact ⟨by first | rfl | (simp [errW_none, errW_some] <;> rfl) | (simp only [← hji4, ← hji7]; first | rfl | (simp [errW_none, errW_some] <;> rfl)) | (simp [*, errW_none, errW_some] <;> rfl), by repeat (first | (with_reducible first | exact HB.out | apply below_alloc | apply pw_below_drewN | apply below_drew1 | refine below_set ?_ GE104.out) | exact HB.out)⟩
            · rw [if_neg c14] at H
              exact absurd H (by simp)
          · rw [if_neg c13] at H
            exact absurd H (by simp)
        · rw [if_neg c12] at H
          exact absurd H (by simp)
      · rw [if_neg c11] at H
        exact absurd H (by simp)

end Go.Proofs.Ythgjieigpfcekaa.QW
