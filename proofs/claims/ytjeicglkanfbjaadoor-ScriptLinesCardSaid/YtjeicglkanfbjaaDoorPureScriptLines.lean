/- ScriptLines is true at every string. -/
import Derived.Test.YtjeicglkanfbjaaDoorUA
import Derived.Test.YtjeicglkanfbjaaDoorPUx5
namespace Go.Proofs.YtjeicglkanfbjaaDoor.Pure
open Go.RowKit Go.Proofs.YtjeicglkanfbjaaDoorW.PrintWords Go.Proofs.YtjeicglkanfbjaaDoorW.PrintMore Go.Proofs.YtjeicglkanfbjaaDoor.PU
theorem bt_get (a : ByteArray) (i : Nat) (h : i < a.size) : ∃ c, a.data.toList.drop i = c :: a.data.toList.drop (i + 1) ∧ bt a (i : Int) = (c.toNat : Int) := by
  refine ⟨a[i], ?_, ?_⟩
  · rw [List.drop_eq_getElem_cons (by rw [data_size]; exact h)]
    congr 1
  · unfold bt
    rw [dif_pos (by simpa using h)]
    simp
/-- The lines of a text are counted. -/
theorem lines_l0 (x3 : List S39) (x4 x7 x10 x13 : Int) (x12 : ByteArray) (hs : x12.size ≤ 1000000) (T : Option Bool) (b : Bool)
    (hT : Ev (fun k => skiarealaw60_ScriptLines.l0 k x3 x4 x7 x10 x12 x13 ((x12.data.toList.count 10 : Nat) : Int) ((x12.size : Nat) : Int)) b) :
    ∀ (d i n : Nat), x12.size - i = d → i ≤ x12.size → n + (x12.data.toList.drop i).count 10 = x12.data.toList.count 10 → n ≤ i → Ev (fun k => skiarealaw60_ScriptLines.l0 k x3 x4 x7 x10 x12 x13 (n : Int) (i : Int)) b
  | 0, i, n, hd, hi, hn, hni => by
    obtain rfl : i = x12.size := by omega
    rw [List.drop_eq_nil_of_le (by rw [data_size]; omega)] at hn
    obtain rfl : n = x12.data.toList.count 10 := by simpa using hn
    exact hT
  | d + 1, i, n, hd, hi, hn, hni => by
    obtain ⟨c, h1, h2⟩ := bt_get x12 i (by omega)
    rw [h1] at hn
    by_cases hc : c = 10
    · subst hc
      rw [List.count_cons_self] at hn
      refine (lines_l0 x3 x4 x7 x10 x13 x12 hs T b hT d (i + 1) (n + 1) (by omega) (by omega) (by omega) (by omega)).step fun k => ?_
      show skiarealaw60_ScriptLines.l0 (k + 1) x3 x4 x7 x10 x12 x13 (n : Int) (i : Int) = _
      rw [skiarealaw60_ScriptLines.l0, if_pos (by omega), if_pos (by omega), h2, if_pos (by rfl), w64 (by omega) (by omega), w64 (by omega) (by omega)]
      rfl
    · rw [List.count_cons_of_ne hc] at hn
      refine (lines_l0 x3 x4 x7 x10 x13 x12 hs T b hT d (i + 1) n (by omega) (by omega) (by omega) (by omega)).step fun k => ?_
      show skiarealaw60_ScriptLines.l0 (k + 1) x3 x4 x7 x10 x12 x13 (n : Int) (i : Int) = _
      rw [skiarealaw60_ScriptLines.l0, if_pos (by omega), if_pos (by omega), h2, if_neg (fun e => hc (UInt8.toNat_inj.1 (by simpa using (by omega : c.toNat = 10)))), w64 (by omega) (by omega)]
      rfl
theorem map39_args {r : List (Int × List Int)} (h : ∀ e ∈ r, e.2.length ≤ 20000) : ∀ e ∈ r.map mk39, e.f1.length ≤ 100000 := by
  intro e he
  obtain ⟨x, hx, rfl⟩ := List.mem_map.1 he
  have := h x hx
  show x.2.length ≤ 100000
  omega
theorem parse_bound {l : List UInt8} {n c : Int} (h : parseS l = .error (n, c)) (hl : l.length ≤ 20000) : 0 ≤ n ∧ n ≤ 20001 ∧ c ≠ 0 := by
  unfold parseS at h
  rw [if_neg (by omega)] at h
  have h1 := goS_err _ _ _ _ _ h
  have h2 := splitOn_len' 10 l
  omega
theorem ScriptLines_true (a : ByteArray) : ∃ k, skiarealaw60_ScriptLines.f k a = some true := by
  obtain ⟨K1, h1'⟩ := alive_true
  by_cases hs : (a.size : Int) > 19000
  · refine ⟨K1, ?_⟩
    have h1 := h1' K1 (by omega)
    dsimp only at h1
    unfold skiarealaw60_ScriptLines.f
    rw [h1, some_bind, if_pos rfl, if_pos hs]
  · obtain ⟨K2, h2'⟩ := parse_law a
    obtain ⟨K3, h3'⟩ := parse_law ((⟨#[10]⟩ : ByteArray) ++ a)
    obtain ⟨K4, h4'⟩ := parse_law ((⟨#[35, 116, 105, 99, 107, 10]⟩ : ByteArray) ++ a)
    have hal : a.data.toList.length = a.size := data_size a
    have d3 : ((⟨#[10]⟩ : ByteArray) ++ a).data.toList = [] ++ 10 :: a.data.toList := by rw [app_data]; rfl
    have d4 : ((⟨#[35, 116, 105, 99, 107, 10]⟩ : ByteArray) ++ a).data.toList = [35, 116, 105, 99, 107] ++ 10 :: a.data.toList := by rw [app_data]; rfl
    have p3 := ahead_law [] a.data.toList (by simp) rfl (by simp; omega)
    have p4 := ahead_law [35, 116, 105, 99, 107] a.data.toList (by decide) rfl (by simp; omega)
    rw [d3, p3] at h3'
    rw [d4, p4] at h4'
    cases hp : parseS a.data.toList with
    | error e =>
      obtain ⟨n, c⟩ := e
      rw [hp] at h2' h3' h4'
      obtain ⟨hn1, hn2, hc⟩ := parse_bound hp (by omega)
      obtain ⟨K5, h5'⟩ := same_refl [] (by simp) (by simp)
      refine ⟨K1 + K2 + K3 + K4 + K5 + 1, ?_⟩
      have h1 := h1' (K1 + K2 + K3 + K4 + K5 + 1) (by omega)
      have h2 := h2' (K1 + K2 + K3 + K4 + K5 + 1) (by omega)
      have h3 := h3' (K1 + K2 + K3 + K4 + K5 + 1) (by omega)
      have h4 := h4' (K1 + K2 + K3 + K4 + K5 + 1) (by omega)
      have h5 := h5' (K1 + K2 + K3 + K4 + K5 + 1) (by omega)
      dsimp only at h1 h3 h4 h5
      unfold skiarealaw60_ScriptLines.f
      rw [h1, some_bind, if_pos rfl, if_neg hs, h2, some_bind, if_pos (by omega), h3, some_bind, if_pos (by omega), h4, some_bind]
      refine (if_pos rfl).trans ((if_pos rfl).trans ?_)
      simp only [resS]
      rw [h5, some_bind, if_pos rfl, some_bind, skiarealaw60_ScriptLines.j0, if_neg (by simp), if_neg hc]
      refine (if_pos rfl).trans ((if_pos (w64 (by omega) (by omega)).symm).trans ?_)
      rw [w64 (by omega) (by omega)]
      simp
    | ok r =>
      rw [hp] at h2' h3' h4'
      dsimp only at h3' h4'
      obtain ⟨hg, htl⟩ := parse_good hp
      have hrl := parse_ok_len hp
      have hsm : smallS (evs (r.map mk39)) = true := by rw [mk_evs]; exact good_small (by omega) hg
      have hpr := print_f (r.map mk39) hsm
      rw [mk_evs, print_good r [] hg, List.nil_append] at hpr
      obtain ⟨t, ht⟩ : ∃ t : ByteArray, t = ⟨(textS r).toArray⟩ := ⟨_, rfl⟩
      have htd : t.data.toList = textS r := by rw [ht]
      have hts : t.size = (textS r).length := by rw [← data_size, htd]
      have hpr' : script_Print.f (r.map mk39) = some (t, 0) := by rw [hpr, ht]; rfl
      obtain ⟨K5, h5'⟩ := same_refl (r.map mk39) (by simp; omega) (map39_args (parse_args hp))
      obtain ⟨K6, h6'⟩ := parse_law t
      have hB := back_law r hg
      rw [if_neg (by omega), if_pos (by omega)] at hB
      rw [htd, hB] at h6'
      have hE : Ev (fun k => skiarealaw60_ScriptLines.l0 k (r.map mk39) 0 0 0 t 0 ((t.data.toList.count 10 : Nat) : Int) ((t.size : Nat) : Int)) true := by
        refine ⟨K5 + K6 + 1, fun k hk => ?_⟩
        obtain ⟨m, rfl⟩ : ∃ m, k = m + 1 := ⟨k - 1, by omega⟩
        show skiarealaw60_ScriptLines.l0 (m + 1) (r.map mk39) 0 0 0 t 0 _ _ = _
        have h5 := h5' m (by omega)
        dsimp only at h5
        rw [skiarealaw60_ScriptLines.l0, if_neg (by omega), h6' m (by omega), some_bind]
        refine (if_pos rfl).trans ((if_pos rfl).trans ((if_pos rfl).trans ((if_pos rfl).trans ((if_pos ?_).trans ((if_pos rfl).trans ?_)))))
        · rw [htd, text_nl r hg, List.length_map]
        · simp only [resS]
          rw [h5]; rfl
      obtain ⟨K7, h7'⟩ := lines_l0 (r.map mk39) 0 0 0 0 t (by omega) none true hE _ 0 0 rfl (Nat.zero_le _) (by simp) (Nat.le_refl _)
      refine ⟨K1 + K2 + K3 + K4 + K5 + K7 + 1, ?_⟩
      have h1 := h1' (K1 + K2 + K3 + K4 + K5 + K7 + 1) (by omega)
      have h2 := h2' (K1 + K2 + K3 + K4 + K5 + K7 + 1) (by omega)
      have h3 := h3' (K1 + K2 + K3 + K4 + K5 + K7 + 1) (by omega)
      have h4 := h4' (K1 + K2 + K3 + K4 + K5 + K7 + 1) (by omega)
      have h5 := h5' (K1 + K2 + K3 + K4 + K5 + K7 + 1) (by omega)
      have h7 := h7' (K1 + K2 + K3 + K4 + K5 + K7) (by omega)
      dsimp only at h1 h5 h7
      unfold skiarealaw60_ScriptLines.f
      rw [h1, some_bind, if_pos rfl, if_neg hs, h2, some_bind, if_pos (by omega), h3, some_bind, if_pos (by omega), h4, some_bind]
      refine (if_pos rfl).trans ((if_pos rfl).trans ?_)
      simp only [resS]
      rw [h5, some_bind, if_pos rfl, some_bind, skiarealaw60_ScriptLines.j0, if_neg (by simp)]
      refine (if_pos rfl).trans ?_
      rw [hpr', some_bind]
      exact h7
end Go.Proofs.YtjeicglkanfbjaaDoor.Pure
