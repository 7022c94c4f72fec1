/- Lists of bindings, as they come in: what reads as data is a list of bindings, no larger than its bulk. -/
import Derived.Test.YtfmbfnjlennfoaaRows
import Derived.Test.YtfmbfnjlennfoaaNtMath
import Derived.Test.YtfmbfnjlennfoaaOpens
namespace Go.Proofs.Ytfmbfnjlennfoaa.Nt
open Go.RowKit Go.Proofs.Ytfmbfnjlennfoaa.QN Go.Proofs.YtfmbfnjlennfoaaW.PrintWords Go.Proofs.YtfmbfnjlennfoaaW.PrintLast Go.ChangeShapes Go.WideShapes
instance : Inhabited BB := ⟨z33⟩
theorem bulk_one {H : Type} (d : DataW H) : 1 ≤ Rows.uptoBulk d := by
  cases d with
  | lit l => cases l <;> simp [Rows.uptoBulk]
  | nil => simp [Rows.uptoBulk]
  | ptr d => simp [Rows.uptoBulk]
  | slice elems spare => simp [Rows.uptoBulk]
  | agg parts => simp [Rows.uptoBulk]
  | iface t d => simp [Rows.uptoBulk]
  | map entries => simp [Rows.uptoBulk]
  | held h => simp [Rows.uptoBulk]
theorem bulk_mem {H : Type} {d : DataW H} : ∀ {l : List (DataW H)}, d ∈ l → Rows.uptoBulk d ≤ Rows.uptoBulkAll l
  | [], h => by cases h
  | x :: r, h => by
    simp only [Rows.uptoBulkAll]
    rcases List.mem_cons.1 h with rfl | h
    · omega
    · have := bulk_mem h; omega
theorem bulk_sum {H : Type} (f : Nat → BB) (D : Nat → DataW H) : ∀ l : List Nat, (∀ i ∈ l, szB (f i) ≤ Rows.uptoBulk (D i)) → szL (l.map f) ≤ Rows.uptoBulkAll (l.map D)
  | [], _ => by simp only [List.map_nil, szL]; omega
  | i :: r, h => by
    have h1 := h i List.mem_cons_self
    have h2 := bulk_sum f D r (fun j hj => h j (List.mem_cons_of_mem _ hj))
    simp only [List.map_cons, szL, Rows.uptoBulkAll]
    omega
theorem okLB_of : ∀ {l : List BB}, (∀ b ∈ l, okB b) → okLB l
  | [], _ => by simp only [okLB]
  | b :: r, h => by
    simp only [okLB]
    exact ⟨h b List.mem_cons_self, okLB_of (fun x hx => h x (List.mem_cons_of_mem _ hx))⟩
theorem c_bind : Try.prog.cellsOf 33 = 6 := by kernel_rfl
theorem c_binds : Try.prog.cellsOf 22 = 1 := by kernel_rfl
theorem c_int : Try.prog.cellsOf 3 = 1 := by kernel_rfl
theorem c_string : Try.prog.cellsOf 9 = 1 := by kernel_rfl
section
variable {H : Type} {enc : TypeId × Value → H} {w : World} {base : Nat} {spare : Nat → Bool} {held : Bool}
/-- What a binding's reading gives. -/
def BindTells (w : World) (cs : List Value) (d : DataW H) : Prop := ∃ b : BB, k33.K w b cs ∧ okB b ∧ szB b ≤ Rows.uptoBulk d
theorem list_tells (N : Nat) (ih : ∀ (fuel : Nat) (cs : List Value) (x : DataW H × List MemPlace), DataW.trod enc Try.prog w base spare held fuel 33 cs = some x → Rows.uptoBulk x.1 < N → BindTells w cs x.1) (fuel : Nat) (cs : List Value) (x : DataW H × List MemPlace)
    (h : DataW.trod enc Try.prog w base spare held fuel 22 cs = some x) (hN : Rows.uptoBulk x.1 ≤ N) : ∃ l : List BB, (Kd.slice 33 k33).K w l cs ∧ okLB l ∧ szL l + 1 ≤ Rows.uptoBulk x.1 := by
  rcases Deep.open_slice Try.underlying22 h with ⟨rfl, rfl⟩ | ⟨a, len, cap, m, n, D, Pl, rfl, _, hl, hm, hmm, rfl, hx⟩
  · exact ⟨[], ⟨none, 0, rfl, Nat.le_refl _, ⟨rfl, by simp, fun h => absurd h (by simp)⟩⟩, by simp only [okLB], by simp only [szL]; exact bulk_one _⟩
  · have hlm : len ≤ m := by rw [hmm]; split <;> omega
    have hsum : Rows.uptoBulkAll ((List.range len).map D) + 1 ≤ Rows.uptoBulk (.slice ((List.range len).map D) ((List.range (m - len)).map fun j => D (len + j)) : DataW H) := by
      simp only [Rows.uptoBulk]
      omega
    obtain ⟨f, hf⟩ := Deep.choose_lt (n := len) (p := fun i (p : BB × List Value) => k33.K w p.1 p.2 ∧ (okB p.1 ∧ szB p.1 ≤ Rows.uptoBulk (D i)) ∧ ∀ j u, p.2[j]? = some u → w.cell? ((a.add (i * Try.prog.cellsOf 33)).add j) = some u) (fun i hi => by
      obtain ⟨cs', h1, h2⟩ := hx i (by omega)
      have hlt : Rows.uptoBulk (D i) < N := by
        have h3 := bulk_mem (List.mem_map.2 ⟨i, List.mem_range.2 hi, rfl⟩ : D i ∈ (List.range len).map D)
        dsimp only at hN
        omega
      obtain ⟨b, hk, hok, hsz⟩ := ih n cs' (D i, Pl i) h2 hlt
      obtain ⟨_, hlen, hcell⟩ := World.cells?_some h1
      exact ⟨(b, cs'), hk, ⟨hok, hsz⟩, fun j u hj => (hcell j (by have h3 : j < cs'.length := (List.getElem?_eq_some_iff.1 hj).1; omega)).trans hj⟩)
    have hlen : ((List.range len).map fun i => (f i).1).length = len := by simp
    refine ⟨(List.range len).map fun i => (f i).1, ⟨some a, cap, by rw [hlen], by rw [hlen]; exact hl, ⟨rfl, by rw [hlen]; exact Nat.le_trans hl hm, fun _ => ⟨a, rfl, fun j p hj => ?_⟩⟩⟩, okLB_of fun b hb => ?_, ?_⟩
    · have hjl : j < len := by have := (List.getElem?_eq_some_iff.1 hj).1; rw [hlen] at this; exact this
      have hp : p = (f j).1 := by
        rw [List.getElem?_map, List.getElem?_range hjl] at hj
        exact (Option.some.inj hj).symm
      subst hp
      obtain ⟨h1, h2, h3⟩ := hf j hjl
      refine ⟨(f j).2, k33.K_len h1, h1, fun i u hu => ?_⟩
      have := h3 i u hu
      rw [Deep.add_add, c_bind] at this
      exact this
    · obtain ⟨i, hi, rfl⟩ := List.mem_map.1 hb
      exact (hf i (List.mem_range.1 hi)).2.1.1
    · have := bulk_sum (fun i => (f i).1) D (List.range len) (fun i hi => (hf i (List.mem_range.1 hi)).2.1.2)
      dsimp only
      omega
theorem slice_K {w : World} {l : List BB} {cs : List Value} (h : (Kd.slice 33 k33).K w l cs) : ∃ A c, cs = [.slice A l.length c] ∧ l.length ≤ c ∧ Kd.C k33 w A l.length l := h
set_option maxRecDepth 100000 in
theorem bind_tells (N : Nat) : ∀ (fuel : Nat) (cs : List Value) (x : DataW H × List MemPlace), DataW.trod enc Try.prog w base spare held fuel 33 cs = some x → Rows.uptoBulk x.1 < N → BindTells w cs x.1 := by
  induction N with
  | zero => intro fuel cs x _ h; omega
  | succ N ih =>
    intro fuel cs x h hN
    obtain ⟨xs, n, _, rfl, hl, hxl, hx⟩ := DataW.trod_struct Try.underlying33 h
    rw [c_bind] at hl
    match cs, hl with
    | [v0, v1, v2, v3, v4, v5], _ =>
    match xs, hxl with
    | [y0, y1, y2, y3, y4, y5], _ =>
    have e0 : DataW.trod enc Try.prog w base spare held n 3 [v0] = some y0 := by have := hx 0 _ rfl; simpa [c_int] using this
    have e1 : DataW.trod enc Try.prog w base spare held n 9 [v1] = some y1 := by have := hx 1 _ rfl; simpa [c_string] using this
    have e2 : DataW.trod enc Try.prog w base spare held n 3 [v2] = some y2 := by have := hx 2 _ rfl; simpa [c_int] using this
    have e3 : DataW.trod enc Try.prog w base spare held n 3 [v3] = some y3 := by have := hx 3 _ rfl; simpa [c_int] using this
    have e4 : DataW.trod enc Try.prog w base spare held n 22 [v4] = some y4 := by have := hx 4 _ rfl; simpa [c_binds] using this
    have e5 : DataW.trod enc Try.prog w base spare held n 22 [v5] = some y5 := by have := hx 5 _ rfl; simpa [c_binds] using this
    have hb : Rows.uptoBulk y0.1 + (Rows.uptoBulk y1.1 + (Rows.uptoBulk y2.1 + (Rows.uptoBulk y3.1 + (Rows.uptoBulk y4.1 + Rows.uptoBulk y5.1)))) + 1 ≤ Rows.uptoBulk (.agg ([y0, y1, y2, y3, y4, y5].map (·.1)) : DataW H) := by
      simp only [List.map_cons, List.map_nil, Rows.uptoBulk, Rows.uptoBulkAll]
      omega
    dsimp only at hN
    have p0 := bulk_one y0.1
    have p1 := bulk_one y1.1
    have p2 := bulk_one y2.1
    have p3 := bulk_one y3.1
    obtain ⟨i0, q0, -, w0⟩ := DataW.trod_int Try.underlying3 e0
    obtain ⟨s1, q1, -, w1⟩ := DataW.trod_string Try.underlying9 e1
    obtain ⟨i2, q2, -, w2⟩ := DataW.trod_int Try.underlying3 e2
    obtain ⟨i3, q3, -, w3⟩ := DataW.trod_int Try.underlying3 e3
    obtain ⟨l4, k4, o4, z4⟩ := list_tells N ih n _ y4 e4 (by omega)
    obtain ⟨l5, k5, o5, z5⟩ := list_tells N ih n _ y5 e5 (by omega)
    obtain ⟨A4, c4, h4, l4c, C4⟩ := slice_K k4
    obtain ⟨A5, c5, h5, l5c, C5⟩ := slice_K k5
    obtain rfl : v0 = .int .i64 i0 := by simpa using q0
    obtain rfl : v1 = .string s1 := by simpa using q1
    obtain rfl : v2 = .int .i64 i2 := by simpa using q2
    obtain rfl : v3 = .int .i64 i3 := by simpa using q3
    obtain rfl : v4 = .slice A4 l4.length c4 := by simpa using h4
    obtain rfl : v5 = .slice A5 l5.length c5 := by simpa using h5
    refine ⟨⟨i0, s1, i2, i3, l4, l5⟩, k33_mk w ⟨i0, s1, i2, i3, l4, l5⟩ l4c C4 l5c C5, by simp only [okB]; exact ⟨⟨w0, w1⟩, o4, o5⟩, ?_⟩
    simp only [szB]
    omega
end
/-- At a value of one cell. -/
theorem binds_one {H : Type} {enc : TypeId × Value → H} {w : World} {base : Nat} {spare : Nat → Bool} {held : Bool} {v : Value} {x : DataW H} {p : List MemPlace} (hr : DataW.Trod enc Try.prog w base spare held 22 v x p) :
    ∃ (l : List BB) (A : Option Addr) (c : Nat), v.cells.toList = [.slice A l.length c] ∧ l.length ≤ c ∧ Kd.C k33 w A l.length l ∧ okLB l ∧ szL l + 1 ≤ Rows.uptoBulk x := by
  obtain ⟨n, hn⟩ := hr
  obtain ⟨l, k, o, z⟩ := list_tells _ (bind_tells (Rows.uptoBulk x)) n _ (x, p) hn (Nat.le_refl _)
  obtain ⟨A, c, h, hc, hC⟩ := slice_K k
  exact ⟨l, A, c, h, hc, hC, o, z⟩
end Go.Proofs.Ytfmbfnjlennfoaa.Nt
