/- The chapter's example of spelled names. -/
import Derived.Test.YtfccifekaokibaaGreatDoorQTx12
import Derived.Test.YtfccifekaokibaaGreatDoorSpEv
namespace Go.Proofs.YtfccifekaokibaaGreatDoor.Sp
open Go.RowKit Go.Proofs.YtfccifekaokibaaGreatDoor.QT Go.Proofs.YtfccifekaokibaaGreatDoorW.PrintWords Go.Proofs.YtfccifekaokibaaGreatDoorW.PrintLast Oriel.Lx Go.Proofs.YtfccifekaokibaaGreatDoor.Lx
def f0 : F := ⟨⟨#[]⟩, ⟨#[118, 97, 108, 32, 120, 32, 61, 32, 121, 32, 43, 32, 49]⟩⟩
theorem few0 : FewF [f0] := ⟨by decide, fun f hf => by rw [List.mem_singleton] at hf; subst hf; decide⟩
set_option maxRecDepth 100000 in
theorem keys0 : ddk ((spellP 0 [f0]).map (·.1)) = [[120], [121], [43]] := by decide +kernel
theorem keysL0 : keysL [f0] = [[43], [120], [121]] := by
  unfold keysL
  rw [keys0, mergeSort_of_perm (show List.Perm [[120], [121], [43]] [[43], [120], [121]] by decide)]
  exact List.mergeSort_of_pairwise (by decide)
theorem taken0 : Ev (fun k => spell_Taken.f k [f0]) [⟨#[43]⟩, ⟨#[120]⟩, ⟨#[121]⟩] := by
  have := taken_ev [f0] few0
  rw [keysL0] at this
  exact this
set_option maxRecDepth 100000 in
theorem fresh0 : name_Fresh.f 60 1 [⟨#[43]⟩, ⟨#[120]⟩, ⟨#[121]⟩] = some (⟨#[122]⟩, true) := by decide +kernel
theorem freshx : Ev (fun k => spell_Fresh.f k ⟨#[120]⟩ [f0]) (⟨#[122]⟩, true) := by
  obtain ⟨K1, h1⟩ := kind_ev ⟨#[120]⟩ (by decide)
  obtain ⟨K2, h2⟩ := taken0
  obtain ⟨K3, h3⟩ := Ev.of (fun k => name_Fresh.mono 1 [⟨#[43]⟩, ⟨#[120]⟩, ⟨#[121]⟩] k) fresh0
  have hk : kindT (⟨#[120]⟩ : ByteArray).data.toList = 6 := by decide
  rw [hk] at h1
  refine ⟨K1 + K2 + K3, fun k hk => ?_⟩
  have g1 := h1 k (by omega)
  have g2 := h2 k (by omega)
  have g3 := h3 k (by omega)
  dsimp only at g1 g2 g3
  unfold spell_Fresh.f
  dsimp only
  rw [g1, Option.bind_some, if_pos rfl, g2, Option.bind_some, g3]
set_option maxRecDepth 100000 in
theorem none0 : (Gp (spellP 0 [f0]) [43, 43]).length = 0 := by decide +kernel
theorem freshp : Ev (fun k => spell_Fresh.f k ⟨#[43]⟩ [f0]) (⟨#[43, 43]⟩, true) := by
  obtain ⟨K1, h1⟩ := kind_ev ⟨#[43]⟩ (by decide)
  obtain ⟨K2, h2⟩ := spelled_ev [f0] few0
  obtain ⟨K3, h3⟩ := alike_ev ⟨#[43, 43]⟩ ⟨#[43]⟩ (by decide) (by decide)
  have hk : kindT (⟨#[43]⟩ : ByteArray).data.toList = 9 := by decide
  have ha : alikeT (⟨#[43, 43]⟩ : ByteArray).data.toList (⟨#[43]⟩ : ByteArray).data.toList = true := by decide
  rw [hk] at h1
  rw [ha] at h3
  refine ⟨K1 + K2 + K3 + 1, fun k hk => ?_⟩
  have g1 := h1 k (by omega)
  have g2 := h2 k (by omega)
  have g3 := h3 k (by omega)
  dsimp only at g1 g2 g3
  have e1 : (⟨#[43]⟩ : ByteArray).extract 0 1 = ⟨#[43]⟩ := by decide +kernel
  have e2 : (⟨#[43]⟩ : ByteArray) ++ ⟨#[43]⟩ = ⟨#[43, 43]⟩ := by decide +kernel
  have lp : ∀ g, 0 < g → frLoop k ⟨#[43]⟩ ⟨#[43]⟩ (spellP 0 [f0]) g ⟨#[43, 43]⟩ = some ⟨#[43, 43]⟩ := by
    intro g hg
    obtain ⟨g, rfl⟩ : ∃ q, g = q + 1 := ⟨g - 1, by omega⟩
    unfold frLoop
    rw [if_pos (by decide), g3, Option.bind_some, if_pos rfl, if_pos none0]
  unfold spell_Fresh.f
  dsimp only
  rw [g1, Option.bind_some, if_neg (by decide), if_neg (by decide), if_pos rfl, g2, Option.bind_some, if_pos (by decide), e1, e2, lp k (by omega)]
  rfl
theorem alive16 : Ev (fun k => oriellaw16_alive.f k) true := by
  obtain ⟨K1, h1⟩ := freshx
  obtain ⟨K2, h2⟩ := freshp
  obtain ⟨K3, h3⟩ := taken0
  obtain ⟨K4, h4⟩ := texts_ev [⟨#[43]⟩, ⟨#[120]⟩, ⟨#[121]⟩] (by simp)
  refine ⟨K1 + K2 + K3 + K4, fun k hk => ?_⟩
  have g1 := h1 k (by omega)
  have g2 := h2 k (by omega)
  have g3 := h3 k (by omega)
  have g4 := h4 k (by omega)
  dsimp only at g1 g2 g3 g4
  unfold f0 at g1 g2 g3
  unfold oriellaw16_alive.f
  dsimp only
  rw [g1, Option.bind_some, g2, Option.bind_some, g3, Option.bind_some, g4, Option.bind_some, if_pos rfl, ByteArray.toList_eq, ByteArray.toList_eq, if_pos rfl, if_pos rfl, if_pos rfl]
end Go.Proofs.YtfccifekaokibaaGreatDoor.Sp

