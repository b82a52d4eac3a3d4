/- The reference's cut, Kind, fits, line. -/
import Derived.Test.YtjeicglkanfbjaaDoorQ3
namespace Go.Proofs.YtjeicglkanfbjaaDoor.Pure
open Go.RowKit Go.Proofs.YtjeicglkanfbjaaDoorW.PrintWords Go.Proofs.YtjeicglkanfbjaaDoorW.PrintMore Go.Proofs.YtjeicglkanfbjaaDoor.PT
/-- The first part has a piece ahead of it. -/
def ahead (w : List UInt8) : List (List UInt8) → List (List UInt8)
  | [] => []
  | h :: t => (w ++ h) :: t
theorem one_byte (a : ByteArray) (i : Nat) (c : UInt8) (h : a.data.toList[i]? = some c) : (a.extract i (i + 1)).data.toList = [c] := by
  obtain ⟨hi, rfl⟩ := List.getElem?_eq_some_iff.1 h
  have : (a.extract i (i + 1)).data.toList = (a.data.toList.drop i).take 1 := by
    simp [ByteArray.data_extract, Array.toList_extract]
  rw [this, List.drop_eq_getElem_cons hi]
  rfl
theorem cut_l0 (a : ByteArray) (hs : a.size ≤ 30000) : ∀ (d i : Nat) (out : List ByteArray) (w : ByteArray), a.size - i = d → i ≤ a.size → out.length ≤ i → w.size ≤ i →
    ∃ r : List ByteArray, Ev (fun k => skiarearef60_cut.l0 k a out w (i : Int)) r ∧ r.map (·.data.toList) = out.map (·.data.toList) ++ ahead w.data.toList (splitOn 32 (a.data.toList.drop i))
  | 0, i, out, w, hd, hi, ho, hw => by
    refine ⟨out ++ [w], Ev.one fun k => ?_, ?_⟩
    · show skiarearef60_cut.l0 (k + 1) a out w (i : Int) = _
      rw [skiarearef60_cut.l0, if_neg (by omega), if_pos (by omega)]
    · rw [List.drop_eq_nil_of_le (by rw [data_size]; omega)]
      simp [splitOn, ahead]
  | d + 1, i, out, w, hd, hi, ho, hw => by
    obtain ⟨c, h1, h2⟩ := bt_at a i (by omega)
    rw [drop_at h1]
    by_cases hc : c = 32
    · subst hc
      obtain ⟨r, e1, e2⟩ := cut_l0 a hs d (i + 1) (out ++ [w]) ⟨#[]⟩ (by omega) (by omega) (by simp; omega) (Nat.zero_le _)
      refine ⟨r, e1.step fun k => ?_, ?_⟩
      · show skiarearef60_cut.l0 (k + 1) a out w (i : Int) = _
        rw [skiarearef60_cut.l0, if_pos (by omega), if_pos (by omega), h2, if_pos (by rfl), if_pos (by omega), w64 (by omega) (by omega)]
        rfl
      · rw [e2, splitOn, if_pos rfl]
        cases hh : splitOn 32 (a.data.toList.drop (i + 1)) with
        | nil => exact absurd hh (splitOn_ne _ _)
        | cons h t => simp [ahead]
    · have hx : (a.extract (i : Int).toNat (((i : Int) + 1)).toNat).data.toList = [c] := by
        have : ((i : Int) + 1).toNat = i + 1 := by omega
        rw [this]; exact one_byte a i c h1
      have hx1 : (a.extract (i : Int).toNat (((i : Int) + 1)).toNat).size = 1 := by rw [← data_size, hx]; rfl
      obtain ⟨r, e1, e2⟩ := cut_l0 a hs d (i + 1) out (w ++ a.extract (i : Int).toNat (((i : Int) + 1)).toNat) (by omega) (by omega) (by omega) (by rw [ByteArray.size_append, hx1]; omega)
      refine ⟨r, e1.step fun k => ?_, ?_⟩
      · show skiarearef60_cut.l0 (k + 1) a out w (i : Int) = _
        rw [skiarearef60_cut.l0, if_pos (by omega), if_pos (by omega), h2, if_neg (fun e => hc (UInt8.toNat_inj.1 (by simpa using (by omega : c.toNat = 32)))), w64 (by omega) (by omega), if_pos (by omega), if_pos (by omega), if_pos (by rw [hx1]; omega)]
        rfl
      · rw [e2, app_data, hx]
        obtain ⟨h, t, e3, e4⟩ := splitOn_cons_ne 32 c (a.data.toList.drop (i + 1)) hc
        rw [e3, e4]
        simp [ahead]
theorem cut_law (a : ByteArray) (hs : a.size ≤ 30000) : ∃ r : List ByteArray, Ev (fun k => skiarearef60_cut.f k a) r ∧ r.map (·.data.toList) = splitOn 32 a.data.toList := by
  obtain ⟨r, e1, e2⟩ := cut_l0 a hs _ 0 [] ⟨#[]⟩ rfl (Nat.zero_le _) (Nat.zero_le _) (Nat.zero_le _)
  refine ⟨r, e1, ?_⟩
  rw [e2, List.drop_zero]
  cases hh : splitOn 32 a.data.toList with
  | nil => exact absurd hh (splitOn_ne _ _)
  | cons h t => simp [ahead]
/-! ### Kind, fits -/
def wordsE : List ByteArray := ⟨#[]⟩ :: formsS.map fun f => ⟨f.1.toArray⟩
theorem words_eq : skiarearef60_words.f = some wordsE := by rfl
theorem wordsE_len : wordsE.length = 45 := by rfl
theorem kind_l0 (w : ByteArray) : ∀ (rest pre : List (List UInt8 × Int × Bool)), formsS = pre ++ rest → Ev (fun k => skiarearef60_Kind.l0 k w wordsE ((pre.length : Int) + 1)) (kindFrom w.data.toList rest (pre.length : Int))
  | [], pre, h => by
    have hlen := congrArg List.length h
    rw [formsS_len] at hlen
    simp only [List.append_nil] at hlen
    refine Ev.one fun k => ?_
    show skiarearef60_Kind.l0 (k + 1) w wordsE ((pre.length : Int) + 1) = _
    rw [skiarearef60_Kind.l0, if_neg (by rw [wordsE_len]; omega)]
    rfl
  | f :: rest, pre, h => by
    have hlen := congrArg List.length h
    rw [formsS_len] at hlen
    simp only [List.length_append, List.length_cons] at hlen
    have hr : rdOf ByteArray.empty wordsE ((pre.length : Int) + 1) = ⟨f.1.toArray⟩ := by
      have e : wordsE = (⟨#[]⟩ :: pre.map fun f => (⟨f.1.toArray⟩ : ByteArray)) ++ (⟨f.1.toArray⟩ : ByteArray) :: (rest.map fun f => (⟨f.1.toArray⟩ : ByteArray)) := by
        unfold wordsE; rw [h]; simp
      rw [e]
      have := rdOf_at ByteArray.empty (⟨#[]⟩ :: pre.map fun f => (⟨f.1.toArray⟩ : ByteArray)) (⟨f.1.toArray⟩ : ByteArray) (rest.map fun f => (⟨f.1.toArray⟩ : ByteArray))
      simpa using this
    have ht : ((⟨f.1.toArray⟩ : ByteArray)).toList = f.1 := by rw [ByteArray.toList_eq]
    rw [kindFrom]
    by_cases hf : f.1 = w.data.toList
    · rw [if_pos hf]
      refine Ev.one fun k => ?_
      show skiarearef60_Kind.l0 (k + 1) w wordsE ((pre.length : Int) + 1) = _
      rw [skiarearef60_Kind.l0, if_pos (by rw [wordsE_len]; omega), if_pos (by omega), hr, if_pos (by rw [ht, ByteArray.toList_eq]; exact hf)]
    · rw [if_neg hf]
      have ih := kind_l0 w rest (pre ++ [f]) (by rw [h]; simp)
      simp only [List.length_append, List.length_cons, List.length_nil, Int.natCast_add] at ih
      refine Ev.step ih fun k => ?_
      show skiarearef60_Kind.l0 (k + 1) w wordsE ((pre.length : Int) + 1) = _
      rw [skiarearef60_Kind.l0, if_pos (by rw [wordsE_len]; omega), if_pos (by omega), hr, if_neg (by rw [ht, ByteArray.toList_eq]; exact hf), w64 (by omega) (by omega)]
      rfl
theorem kind_law (w : ByteArray) : Ev (fun k => skiarearef60_Kind.f k w) (kindS w.data.toList) := by
  obtain ⟨K, h⟩ := kind_l0 w formsS [] rfl
  refine ⟨K, fun k hk => ?_⟩
  show skiarearef60_Kind.f k w = _
  unfold skiarearef60_Kind.f
  rw [words_eq, some_bind]
  exact h k hk
theorem args_all : ((List.range 44).all fun i => decide (skiarearef59_Arguments.f ((i : Int) + 1) = (formsS[i]?).map fun f => (f.2.1, f.2.2))) = true := by decide +kernel
theorem args_law (kd : Int) (h1 : 1 ≤ kd) (h2 : kd ≤ 44) : ∃ f, formsS[(kd - 1).toNat]? = some f ∧ skiarearef59_Arguments.f kd = some (f.2.1, f.2.2) ∧ 0 ≤ f.2.1 ∧ f.2.1 ≤ 6 := by
  have hi : (kd - 1).toNat < formsS.length := by rw [formsS_len]; omega
  have hb : ∀ f ∈ formsS, (0 : Int) ≤ f.2.1 ∧ f.2.1 ≤ 6 := by decide +kernel
  have h := List.all_eq_true.1 args_all (kd - 1).toNat (by rw [List.mem_range]; omega)
  have h := of_decide_eq_true h
  rw [show (((kd - 1).toNat : Nat) : Int) + 1 = kd by omega, List.getElem?_eq_getElem hi] at h
  exact ⟨_, List.getElem?_eq_getElem hi, h, hb _ (List.getElem_mem hi)⟩
theorem fits_ref (kd n : Int) (h1 : 1 ≤ kd) (h2 : kd ≤ 44) : skiarearef60_fits.f kd n = some (fitsS kd n) := by
  obtain ⟨f, e1, e2, e3, e4⟩ := args_law kd h1 h2
  unfold skiarearef60_fits.f fitsS
  rw [e2, some_bind, e1]
  obtain ⟨x, b, c⟩ := f
  dsimp only at e3 e4 ⊢
  rw [w64 (by omega) (by omega)]
  by_cases hn : n = b
  · rw [if_pos hn, decide_eq_true hn]; rfl
  · rw [if_neg hn, decide_eq_false hn]
    cases c with
    | false => simp
    | true =>
      rw [if_pos rfl]
      by_cases h3 : n > b
      · rw [if_pos h3, decide_eq_true (by omega : b < n)]; simp
      · rw [if_neg h3, decide_eq_false (by omega : ¬ b < n)]; simp
end Go.Proofs.YtjeicglkanfbjaaDoor.Pure
