/- ScriptPrints is true at every list of events. -/
import Derived.Test.YtjeicglkanfbjaaDoorUA
namespace Go.Proofs.YtjeicglkanfbjaaDoor.Pure
open Go.RowKit Go.Proofs.YtjeicglkanfbjaaDoorW.PrintWords Go.Proofs.YtjeicglkanfbjaaDoorW.PrintMore Go.Proofs.YtjeicglkanfbjaaDoor.PU
theorem ScriptPrints_true (l : List S39) : ∃ k, skiarealaw60_ScriptPrints.f k l = some true := by
  obtain ⟨K1, h1⟩ := alive_true
  obtain ⟨K2, h2⟩ := small_law l
  by_cases hs : smallS (evs l) = true
  · obtain ⟨K3, h3⟩ := refPrint_law l hs
    refine ⟨K1 + K2 + K3, ?_⟩
    have h1 := h1 (K1 + K2 + K3) (by omega)
    have h2 := h2 (K1 + K2 + K3) (by omega)
    have h3 := h3 (K1 + K2 + K3) (by omega)
    dsimp only at h1 h2 h3
    unfold skiarealaw60_ScriptPrints.f
    rw [h1, some_bind, if_pos rfl, h2, some_bind, if_pos hs, print_f l hs, some_bind, h3, some_bind, if_pos rfl]
    simp
  · refine ⟨K1 + K2, ?_⟩
    have h1 := h1 (K1 + K2) (by omega)
    have h2 := h2 (K1 + K2) (by omega)
    dsimp only at h1 h2
    unfold skiarealaw60_ScriptPrints.f
    rw [h1, some_bind, if_pos rfl, h2, some_bind, if_neg hs]
end Go.Proofs.YtjeicglkanfbjaaDoor.Pure
