import Derived.Test.YtjeicglkanfbjaaDoorPTx7
import Derived.Test.YtjeicglkanfbjaaDoorQ6
namespace Go.Proofs.YtjeicglkanfbjaaDoor.Pure
open Go.RowKit Go.Proofs.YtjeicglkanfbjaaDoor.PT Go.Proofs.YtjeicglkanfbjaaDoorW.PrintWords Go.Proofs.YtjeicglkanfbjaaDoorW.PrintLast
theorem same_res (l : List UInt8) : Ev (fun k => skiarearef60_Same.f k (resS (parseS l)).1 (resS (parseS l)).1) true := by
  cases h : parseS l with
  | error e => exact same_refl [] (by simp) (by simp)
  | ok r =>
    refine same_refl (r.map mk39) (by have := parse_ok_len h; simp; omega) ?_
    intro e he
    obtain ⟨x, hx, rfl⟩ := List.mem_map.1 he
    have := parse_args h x hx
    show x.2.length ≤ 100000
    omega
theorem ScriptParses_true (a0 : ByteArray) : ∃ k, skiarealaw60_ScriptParses.f k a0 = some true := by
  obtain ⟨Ka, ha⟩ := alive_true
  obtain ⟨K1, p1⟩ := parse_law a0
  obtain ⟨K2, p2⟩ := refParse_law a0
  obtain ⟨K3, p3⟩ := same_res a0.data.toList
  refine ⟨Ka + K1 + K2 + K3, ?_⟩
  have ha := ha (Ka + K1 + K2 + K3) (by omega)
  have p1 := p1 (Ka + K1 + K2 + K3) (by omega)
  have p2 := p2 (Ka + K1 + K2 + K3) (by omega)
  have p3 := p3 (Ka + K1 + K2 + K3) (by omega)
  dsimp only at ha p2 p3
  unfold skiarealaw60_ScriptParses.f
  rw [ha, some_bind, if_pos rfl]
  by_cases hs : (a0.size : Int) > 21000
  · rw [if_pos hs]
  · rw [if_neg hs, p1, some_bind, p2, some_bind]
    refine (if_pos rfl).trans ((if_pos rfl).trans ?_)
    exact (congrArg (fun o : Option Bool => o.bind fun t => some t) p3).trans rfl
end Go.Proofs.YtjeicglkanfbjaaDoor.Pure
