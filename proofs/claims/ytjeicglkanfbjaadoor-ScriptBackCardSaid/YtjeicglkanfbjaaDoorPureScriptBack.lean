/- ScriptBack is true at every list of events. -/
import Derived.Test.YtjeicglkanfbjaaDoorUA
import Derived.Test.YtjeicglkanfbjaaDoorPUx5
namespace Go.Proofs.YtjeicglkanfbjaaDoor.Pure
open Go.RowKit Go.Proofs.YtjeicglkanfbjaaDoorW.PrintWords Go.Proofs.YtjeicglkanfbjaaDoorW.PrintMore Go.Proofs.YtjeicglkanfbjaaDoor.PU
theorem mk_len (l : List S39) : (evs l).length = l.length := by unfold evs; exact List.length_map _
theorem ScriptBack_true (l : List S39) : ∃ k, skiarealaw60_ScriptBack.f k l = some true := by
  obtain ⟨K1, h1⟩ := alive_true
  obtain ⟨K2, h2⟩ := small_law l
  by_cases hs : smallS (evs l) = true
  · obtain ⟨hl, h60⟩ := small_parts hs
    have hb : ∀ e ∈ l, e.f1.length ≤ 100000 := by
      intro e he
      have h := hs
      unfold smallS evs at h
      rw [Bool.and_eq_true, List.all_map, List.all_eq_true] at h
      have := of_decide_eq_true (h.2 e he)
      have h2 : (ev_script_Print e).2 = e.f1 := rfl
      rw [h2] at this
      omega
    cases hp : printGo (evs l) [] with
    | error c =>
      refine ⟨K1 + K2, ?_⟩
      have h1 := h1 (K1 + K2) (by omega)
      have h2 := h2 (K1 + K2) (by omega)
      dsimp only at h1 h2
      unfold skiarealaw60_ScriptBack.f
      rw [h1, some_bind, if_pos rfl, h2, some_bind, if_pos hs, print_f l hs, hp, some_bind]
      refine (if_neg (print_err _ _ _ hp)).trans ?_
      rw [ByteArray.toList_eq]; rfl
    | ok s =>
      obtain ⟨hg, hsx⟩ := print_inv _ _ _ hp
      rw [List.nil_append] at hsx
      obtain ⟨K3, h3⟩ := parse_law ⟨s.toArray⟩
      obtain ⟨K4, h4⟩ := same_refl l (by omega) hb
      have hB := back_law (evs l) hg
      rw [← hsx, mk_len] at hB
      refine ⟨K1 + K2 + K3 + K4, ?_⟩
      have h1 := h1 (K1 + K2 + K3 + K4) (by omega)
      have h2 := h2 (K1 + K2 + K3 + K4) (by omega)
      have h3 := h3 (K1 + K2 + K3 + K4) (by omega)
      have h4 := h4 (K1 + K2 + K3 + K4) (by omega)
      dsimp only at h1 h2 h4
      rw [show (⟨s.toArray⟩ : ByteArray).data.toList = s from rfl, hB] at h3
      unfold skiarealaw60_ScriptBack.f
      rw [h1, some_bind, if_pos rfl, h2, some_bind, if_pos hs, print_f l hs, hp, some_bind]
      refine (if_pos rfl).trans ?_
      rw [show (endP (.ok s)).1 = (⟨s.toArray⟩ : ByteArray) from rfl, h3, some_bind]
      have hsz : ((⟨s.toArray⟩ : ByteArray).size : Int) = (s.length : Int) := rfl
      rw [hsz]
      by_cases h20 : 20000 < s.length
      · rw [if_pos h20, if_pos (by omega)]
        rfl
      · rw [if_neg h20, if_neg (by omega)]
        by_cases h400 : l.length ≤ 400
        · rw [if_pos h400, if_neg (by omega)]
          refine (if_pos rfl).trans ((if_pos rfl).trans ?_)
          show (skiarearef60_Same.f (K1 + K2 + K3 + K4) l ((evs l).map mk39)).bind _ = _
          rw [evs_mk, h4]; rfl
        · rw [if_neg h400, if_pos (by omega)]
          rfl
  · refine ⟨K1 + K2, ?_⟩
    have h1 := h1 (K1 + K2) (by omega)
    have h2 := h2 (K1 + K2) (by omega)
    dsimp only at h1 h2
    unfold skiarealaw60_ScriptBack.f
    rw [h1, some_bind, if_pos rfl, h2, some_bind, if_neg hs]
end Go.Proofs.YtjeicglkanfbjaaDoor.Pure
