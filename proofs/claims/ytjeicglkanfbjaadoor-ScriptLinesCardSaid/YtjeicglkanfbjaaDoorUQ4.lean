/- The reference's words and their arguments. -/
import Derived.Test.YtjeicglkanfbjaaDoorPUx3
import Derived.Test.YtjeicglkanfbjaaDoorUQ2
namespace Go.Proofs.YtjeicglkanfbjaaDoor.Pure
open Go.RowKit Go.Proofs.YtjeicglkanfbjaaDoorW.PrintWords Go.Proofs.YtjeicglkanfbjaaDoorW.PrintMore Go.Proofs.YtjeicglkanfbjaaDoor.PU
def wordsE : List ByteArray := ⟨#[]⟩ :: formsS.map fun f => ⟨f.1.toArray⟩
theorem words_eq : skiarearef60_words.f = some wordsE := by rfl
theorem wordsE_len : wordsE.length = 45 := by rfl
theorem args_all : ((List.range 44).all fun i => decide (skiarearef59_Arguments.f ((i : Int) + 1) = (formsS[i]?).map fun f => (f.2.1, f.2.2))) = true := by decide +kernel
theorem args_law (kd : Int) (h1 : 1 ≤ kd) (h2 : kd ≤ 44) : ∃ f, formsS[(kd - 1).toNat]? = some f ∧ skiarearef59_Arguments.f kd = some (f.2.1, f.2.2) ∧ 0 ≤ f.2.1 ∧ f.2.1 ≤ 6 := by
  have hi : (kd - 1).toNat < formsS.length := by rw [formsS_len]; omega
  have hb : ∀ f ∈ formsS, (0 : Int) ≤ f.2.1 ∧ f.2.1 ≤ 6 := by decide +kernel
  have h := List.all_eq_true.1 args_all (kd - 1).toNat (by rw [List.mem_range]; omega)
  have h := of_decide_eq_true h
  rw [show (((kd - 1).toNat : Nat) : Int) + 1 = kd by omega, List.getElem?_eq_getElem hi] at h
  exact ⟨_, List.getElem?_eq_getElem hi, h, hb _ (List.getElem_mem hi)⟩
theorem fits_ref (kd n : Int) (h1 : 1 ≤ kd) (h2 : kd ≤ 44) : skiarearef60_fits.f kd n = some (fitsS kd n) := by
  obtain ⟨f, e1, e2, e3, e4⟩ := args_law kd h1 h2
  unfold skiarearef60_fits.f fitsS
  rw [e2, some_bind, e1]
  obtain ⟨x, b, c⟩ := f
  dsimp only at e3 e4 ⊢
  rw [w64 (by omega) (by omega)]
  by_cases hn : n = b
  · rw [if_pos hn, decide_eq_true hn]; rfl
  · rw [if_neg hn, decide_eq_false hn]
    cases c with
    | false => simp
    | true =>
      rw [if_pos rfl]
      by_cases h3 : n > b
      · rw [if_pos h3, decide_eq_true (by omega : b < n)]; simp
      · rw [if_neg h3, decide_eq_false (by omega : ¬ b < n)]; simp
end Go.Proofs.YtjeicglkanfbjaaDoor.Pure
