/- Graphs, pairs, occurrences, as they come in. -/
import Derived.Test.YthgjieigpfcekaaOpens
import Derived.Test.YthgjieigpfcekaaQGx0
namespace Go.Proofs.Ythgjieigpfcekaa.Op
open Go.RowKit Go.Proofs.Ythgjieigpfcekaa.QG Go.Proofs.YthgjieigpfcekaaW.PrintWords
abbrev wf (i : Int) : Prop := (Lit.int .i64 i).wf = true
theorem o_int : Opens Try.prog 3 (Kd.int .i64) wf := Opens.int Try.underlying3 (by kernel_rfl)
theorem o_bool : Opens Try.prog 4 Kd.bool (fun _ => True) := Opens.bool Try.underlying4 (by kernel_rfl)
theorem o_ints : Opens Try.prog 24 (Kd.slice 3 (Kd.int .i64)) (fun l => ∀ x ∈ l, wf x) := Opens.slice Try.underlying24 (by kernel_rfl) o_int
instance : Inhabited S34 := ⟨z34⟩
instance : Inhabited S92 := ⟨z92⟩
theorem c_pair : Try.prog.cellsOf 34 = 2 := by kernel_rfl
theorem o_pair : Opens Try.prog 34 k34 (fun p => wf p.f0 ∧ wf p.f1) :=
  Opens.imp (Opens.iso (Opens.struct Try.underlying34 c_pair (Rest.more rfl o_int (Rest.last rfl o_int)) rfl) (fun x : S34 => (x.f0, x.f1)) (fun a => ⟨a.1, a.2⟩) (fun _ => rfl)) (fun _ h => h)
theorem o_pairs : Opens Try.prog 22 (Kd.slice 34 k34) (fun l => ∀ p ∈ l, wf p.f0 ∧ wf p.f1) := Opens.slice Try.underlying22 (by kernel_rfl) o_pair
theorem c_graph : Try.prog.cellsOf 51 = 3 := by kernel_rfl
theorem o_graph : Opens Try.prog 51 k51 (fun g => (∀ x ∈ g.f0, wf x) ∧ (∀ p ∈ g.f1, wf p.f0 ∧ wf p.f1) ∧ ∀ x ∈ g.f2, wf x) :=
  Opens.imp (Opens.iso (Opens.struct Try.underlying51 c_graph (Rest.more rfl o_ints (Rest.more rfl o_pairs (Rest.last rfl o_ints))) rfl) (fun x : S51 => (x.f0, x.f1, x.f2)) (fun a => ⟨a.1, a.2.1, a.2.2⟩) (fun _ => rfl)) (fun _ h => h)
theorem c_occ : Try.prog.cellsOf 92 = 5 := by kernel_rfl
theorem o_occ : Opens Try.prog 92 k92 (fun o => wf o.f0 ∧ wf o.f1 ∧ wf o.f2 ∧ wf o.f3 ∧ True) :=
  Opens.imp (Opens.iso (Opens.struct Try.underlying92 c_occ (Rest.more rfl o_int (Rest.more rfl o_int (Rest.more rfl o_int (Rest.more rfl o_int (Rest.last rfl o_bool))))) rfl) (fun x : S92 => (x.f0, x.f1, x.f2, x.f3, x.f4)) (fun a => ⟨a.1, a.2.1, a.2.2.1, a.2.2.2.1, a.2.2.2.2⟩) (fun _ => rfl)) (fun _ h => h)
theorem o_occs : Opens Try.prog 52 (Kd.slice 92 k92) (fun l => ∀ o ∈ l, wf o.f0 ∧ wf o.f1 ∧ wf o.f2 ∧ wf o.f3 ∧ True) := Opens.slice Try.underlying52 (by kernel_rfl) o_occ
end Go.Proofs.Ythgjieigpfcekaa.Op
