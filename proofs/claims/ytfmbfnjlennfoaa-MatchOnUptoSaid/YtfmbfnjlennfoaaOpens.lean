/- What comes in, opened by its type: a value that reads as data is one that a kind reads. -/
import Derived.Test.YtfmbfnjlennfoaaWWords
import Derived.Deep.Slices
import Derived.Deep.Strs
import Derived.Lib.SmallJoins
import Derived.ProofKit
namespace Go.Proofs.Ytfmbfnjlennfoaa.Op
open Go.RowKit Go.Proofs.YtfmbfnjlennfoaaW.PrintWords Go.ChangeShapes Go.WideShapes
/-- What reads as a value of type e is read by d, as something good. -/
structure Opens {α : Type} (P : Program) (e : TypeId) (d : Kd α) (G : α → Prop) : Prop where
  cells : P.cellsOf e = d.sz
  reads : ∀ {H : Type} {enc : TypeId × Value → H} {w : World} {base : Nat} {spare : Nat → Bool} {held : Bool} {n : Nat} {cs : List Value} {x : DataW H × List MemPlace},
    DataW.trod enc P w base spare held n e cs = some x → ∃ a, d.K w a cs ∧ G a
variable {P : Program}
theorem Opens.int {e : TypeId} {k : IntKind} (he : P.underlying e = some (.int k)) (hc : P.cellsOf e = 1) : Opens P e (Kd.int k) (fun i => (Lit.int k i).wf = true) :=
  ⟨hc, fun h => by
    obtain ⟨n, rfl, _, hw⟩ := DataW.trod_int he h
    exact ⟨n, rfl, hw⟩⟩
theorem Opens.bool {e : TypeId} (he : P.underlying e = some .bool) (hc : P.cellsOf e = 1) : Opens P e Kd.bool (fun _ => True) :=
  ⟨hc, fun h => by
    obtain ⟨b, rfl, _⟩ := DataW.trod_bool he h
    exact ⟨b, rfl, trivial⟩⟩
theorem Opens.string {e : TypeId} (he : P.underlying e = some .string) (hc : P.cellsOf e = 1) : Opens P e Kd.string (fun s => s.size ≤ maxLen) :=
  ⟨hc, fun h => by
    obtain ⟨s, rfl, _, hs⟩ := DataW.trod_string he h
    exact ⟨s, rfl, hs⟩⟩
theorem Opens.slice {α : Type} [Inhabited α] {t e : TypeId} {d : Kd α} {G : α → Prop} (ht : P.underlying t = some (.slice e)) (hc : P.cellsOf t = 1) (h : Opens P e d G) : Opens P t (Kd.slice e d) (fun l => ∀ x ∈ l, G x) := by
  refine ⟨hc, ?_⟩
  intro H enc w base spare held n0 cs x hr
  rcases Deep.open_slice ht hr with ⟨rfl, _⟩ | ⟨a, len, cap, m, n, D, Pl, rfl, _, hl, hm, hmm, _, hx⟩
  · exact ⟨[], ⟨none, 0, rfl, Nat.le_refl _, ⟨rfl, by simp, fun h => absurd h (by simp)⟩⟩, fun x hx => by cases hx⟩
  · have hlm : len ≤ m := by rw [hmm]; split <;> omega
    obtain ⟨f, hf⟩ := Deep.choose_lt (n := len) (p := fun i (p : α × List Value) => d.K w p.1 p.2 ∧ G p.1 ∧ ∀ j u, p.2[j]? = some u → w.cell? ((a.add (i * P.cellsOf e)).add j) = some u) (fun i hi => by
      obtain ⟨cs', h1, h2⟩ := hx i (by omega)
      obtain ⟨x, hk, hg⟩ := h.reads h2
      obtain ⟨_, hlen, hcell⟩ := World.cells?_some h1
      exact ⟨(x, cs'), hk, hg, fun j u hj => (hcell j (by have h3 : j < cs'.length := (List.getElem?_eq_some_iff.1 hj).1; omega)).trans hj⟩)
    have hlen : ((List.range len).map fun i => (f i).1).length = len := by simp
    refine ⟨(List.range len).map fun i => (f i).1, ⟨some a, cap, by rw [hlen], by rw [hlen]; exact hl, ⟨rfl, by rw [hlen]; exact Nat.le_trans hl hm, fun _ => ⟨a, rfl, fun j p hj => ?_⟩⟩⟩, fun x hx => ?_⟩
    · have hjl : j < len := by have := (List.getElem?_eq_some_iff.1 hj).1; rw [hlen] at this; exact this
      have hp : p = (f j).1 := by
        rw [List.getElem?_map, List.getElem?_range hjl] at hj
        exact (Option.some.inj hj).symm
      subst hp
      obtain ⟨h1, h2, h3⟩ := hf j hjl
      refine ⟨(f j).2, d.K_len h1, h1, fun i u hu => ?_⟩
      have := h3 i u hu
      rw [Deep.add_add, h.cells] at this
      exact this
    · obtain ⟨i, hi, rfl⟩ := List.mem_map.1 hx
      exact (hf i (List.mem_range.1 hi)).2.1
/-- Fields, from an offset on. -/
structure Rest {α : Type} (P : Program) (fs : List Field) (off : Nat) (d : Kd α) (G : α → Prop) : Prop where
  reads : ∀ {H : Type} {enc : TypeId × Value → H} {w : World} {base : Nat} {spare : Nat → Bool} {held : Bool} {cs : List Value}, cs.length = off + d.sz →
    (∀ f ∈ fs, ∃ (n : Nat) (x : DataW H × List MemPlace), DataW.trod enc P w base spare held n f.type ((cs.drop f.offset).take (P.cellsOf f.type)) = some x) → ∃ a, d.K w a (cs.drop off) ∧ G a
theorem Rest.last {α : Type} {f : Field} {off : Nat} {d : Kd α} {G : α → Prop} (ho : f.offset = off) (h : Opens P f.type d G) : Rest P [f] off d G := by
  refine ⟨?_⟩
  intro H enc w base spare held cs hl hf
  obtain ⟨n, x, hx⟩ := hf f (by simp)
  rw [ho, h.cells, List.take_of_length_le (by rw [List.length_drop]; omega)] at hx
  exact h.reads hx
theorem Rest.more {α β : Type} {f : Field} {fs : List Field} {off : Nat} {d : Kd α} {d' : Kd β} {G : α → Prop} {G' : β → Prop} (ho : f.offset = off) (h : Opens P f.type d G) (k : Rest P fs (off + d.sz) d' G') : Rest P (f :: fs) off (Kd.pair d d') (fun x => G x.1 ∧ G' x.2) := by
  refine ⟨?_⟩
  intro H enc w base spare held cs hl hf
  obtain ⟨n, x, hx⟩ := hf f (by simp)
  rw [ho, h.cells] at hx
  obtain ⟨a, ha, hg⟩ := h.reads hx
  have hl' : cs.length = off + d.sz + d'.sz := by rw [hl]; show off + (d.sz + d'.sz) = _; omega
  obtain ⟨b, hb, hg'⟩ := k.reads hl' (fun f hf' => hf f (by simp [hf']))
  refine ⟨(a, b), ⟨(cs.drop off).take d.sz, cs.drop (off + d.sz), ?_, ha, hb⟩, hg, hg'⟩
  rw [← List.drop_drop, List.take_append_drop]
theorem Opens.struct {α : Type} {t : TypeId} {fs : Array Field} {d : Kd α} {G : α → Prop} (ht : P.underlying t = some (.struct fs)) {m : Nat} (hm : P.cellsOf t = m) (h : Rest P fs.toList 0 d G) (hd : m = d.sz) : Opens P t d G := by
  have hc : P.cellsOf t = d.sz := hm.trans hd
  refine ⟨hc, fun hr => ?_⟩
  obtain ⟨xs, n, _, _, hl, hxl, hx⟩ := DataW.trod_struct ht hr
  have := h.reads (cs := _) (by rw [hl, hc, Nat.zero_add]) (fun f hf => by
    obtain ⟨i, hi⟩ := List.mem_iff_getElem?.1 hf
    rw [Array.getElem?_toList] at hi
    have h1 := hx i f hi
    have hi2 : i < xs.length := by rw [hxl]; exact (Array.getElem?_eq_some_iff.1 hi).1
    rw [List.getElem?_eq_getElem hi2] at h1
    exact ⟨n, _, h1⟩)
  simpa using this
theorem Opens.iso {α β : Type} {t : TypeId} {d : Kd α} {G : α → Prop} (h : Opens P t d G) (f : β → α) (g : α → β) (hfg : ∀ a, f (g a) = a) : Opens P t (Kd.iso d f) (fun b => G (f b)) :=
  ⟨h.cells, fun hr => by
    obtain ⟨a, ha, hg⟩ := h.reads hr
    exact ⟨g a, by show d.K _ (f (g a)) _; rw [hfg]; exact ha, by show G (f (g a)); rw [hfg]; exact hg⟩⟩
theorem Opens.imp {α : Type} {t : TypeId} {d : Kd α} {G G' : α → Prop} (h : Opens P t d G) (hg : ∀ a, G a → G' a) : Opens P t d G' :=
  ⟨h.cells, fun hr => by
    obtain ⟨a, ha, h1⟩ := h.reads hr
    exact ⟨a, ha, hg a h1⟩⟩
/-- At a value of one cell. -/
theorem Opens.one {α : Type} {t : TypeId} {d : Kd α} {G : α → Prop} (h : Opens P t d G) {H : Type} {enc : TypeId × Value → H} {w : World} {base : Nat} {spare : Nat → Bool} {held : Bool} {v : Value} {x : DataW H} {p : List MemPlace}
    (hr : DataW.Trod enc P w base spare held t v x p) : ∃ a, d.K w a v.cells.toList ∧ G a := by
  obtain ⟨n, hn⟩ := hr
  exact h.reads hn
end Go.Proofs.Ytfmbfnjlennfoaa.Op
