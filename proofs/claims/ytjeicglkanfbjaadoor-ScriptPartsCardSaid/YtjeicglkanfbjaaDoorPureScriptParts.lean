import Derived.Test.YtjeicglkanfbjaaDoorPTx7
import Derived.Test.YtjeicglkanfbjaaDoorQ2
import Derived.Test.YtjeicglkanfbjaaDoorS3
namespace Go.Proofs.YtjeicglkanfbjaaDoor.Pure
open Go.RowKit Go.Proofs.YtjeicglkanfbjaaDoor.PT Go.Proofs.YtjeicglkanfbjaaDoorW.PrintWords Go.Proofs.YtjeicglkanfbjaaDoorW.PrintLast
theorem map39_args {r : List (Int × List Int)} (h : ∀ e ∈ r, e.2.length ≤ 20000) : ∀ e ∈ r.map mk39, e.f1.length ≤ 100000 := by
  intro e he
  obtain ⟨x, hx, rfl⟩ := List.mem_map.1 he
  have := h x hx
  show x.2.length ≤ 100000
  omega
theorem ScriptParts_true (a0 a1 : ByteArray) : ∃ k, skiarealaw60_ScriptParts.f k a0 a1 = some true := by
  obtain ⟨Ka, ha'⟩ := alive_true
  have ha : ∀ k, Ka ≤ k → skiarealaw60_alive.f k = some true := ha'
  by_cases h0 : (a0.size : Int) > 9900
  · refine ⟨Ka + 1, ?_⟩
    unfold skiarealaw60_ScriptParts.f
    rw [ha _ (by omega), some_bind, if_pos rfl, if_pos h0, skiarealaw60_ScriptParts.j0, if_pos rfl]
  by_cases h1 : (a1.size : Int) > 9900
  · refine ⟨Ka + 1, ?_⟩
    unfold skiarealaw60_ScriptParts.f
    rw [ha _ (by omega), some_bind, if_pos rfl, if_neg h0, skiarealaw60_ScriptParts.j0, if_pos (decide_eq_true h1)]
  obtain ⟨K0, p0⟩ := parse_law a0
  obtain ⟨K1, p1⟩ := parse_law a1
  obtain ⟨K2, p2⟩ := parse_law ((a0 ++ (⟨#[10]⟩ : ByteArray)) ++ a1)
  have hd : ((a0 ++ (⟨#[10]⟩ : ByteArray)) ++ a1).data.toList = a0.data.toList ++ 10 :: a1.data.toList := by
    rw [app_data, app_data]; simp
  rw [hd] at p2
  have l0 : a0.data.toList.length ≤ 9900 := by rw [data_size]; omega
  have l1 : a1.data.toList.length ≤ 9900 := by rw [data_size]; omega
  obtain ⟨q1, q2⟩ := parts_law _ _ l0 l1
  have l2 : (a0.data.toList ++ 10 :: a1.data.toList).length ≤ 20000 := by simp only [List.length_append, List.length_cons]; omega
  have unf : ∀ Ks, skiarealaw60_ScriptParts.f (Ka + K0 + K1 + K2 + Ks + 1) a0 a1 = skiarealaw60_ScriptParts.j0 (Ka + K0 + K1 + K2 + Ks + 1) a0 a1 false := by
    intro Ks
    unfold skiarealaw60_ScriptParts.f
    rw [ha _ (by omega), some_bind, if_pos rfl, if_neg h0, decide_eq_false h1]
  have bad : (∃ n c, parseS (a0.data.toList ++ 10 :: a1.data.toList) = .error (n, c)) → (parseS a0.data.toList).isOk = false ∨ (parseS a1.data.toList).isOk = false ∨ (∃ l m, parseS a0.data.toList = .ok l ∧ parseS a1.data.toList = .ok m ∧ 400 < l.length + m.length) → skiarealaw60_ScriptParts.f (Ka + K0 + K1 + K2 + 0 + 1) a0 a1 = some true := by
    rintro ⟨n, c, hx⟩ hy
    obtain ⟨hn, hc⟩ := parse_err hx l2
    rw [unf 0, skiarealaw60_ScriptParts.j0, if_neg (by simp), p0 _ (by omega), some_bind, p1 _ (by omega), some_bind, if_pos (by omega), if_pos (by omega), p2 _ (by omega), some_bind, hx]
    cases e0 : parseS a0.data.toList with
    | error e =>
      obtain ⟨n0, c0⟩ := e
      have := (parse_err e0 (by omega)).2
      simp [resS, this, hc, hn]
    | ok l =>
      cases e1 : parseS a1.data.toList with
      | error e =>
        obtain ⟨n1, c1⟩ := e
        have := (parse_err e1 (by omega)).2
        simp [resS, this, hc, hn]
      | ok m =>
        have hlm : 400 < l.length + m.length := by
          rcases hy with h | h | ⟨l', m', h1, h2, h3⟩
          · rw [e0] at h; simp [Except.isOk, Except.toBool] at h
          · rw [e1] at h; simp [Except.isOk, Except.toBool] at h
          · rw [e0] at h1; rw [e1] at h2
            injection h1 with h1; injection h2 with h2
            rw [h1, h2]; exact h3
        have hl := parse_ok_len e0
        have hm := parse_ok_len e1
        have hw : wrap64 (((l.map mk39).length : Int) + ((m.map mk39).length : Int)) > 400 := by
          rw [w64 (by simp; omega) (by simp; omega)]; simp; omega
        simp only [resS]
        refine (if_pos trivial).trans ((if_pos trivial).trans ((if_pos hw).trans ((if_neg hc).trans ((if_pos (by rfl)).trans ?_))))
        simp [hn]
  cases e0 : parseS a0.data.toList with
  | error e => exact ⟨_, bad (q2 (.inl ⟨e.1, e.2, e0⟩)) (.inl (by rw [e0]; rfl))⟩
  | ok l =>
    cases e1 : parseS a1.data.toList with
    | error e => exact ⟨_, bad (q2 (.inr (.inl ⟨e.1, e.2, e1⟩))) (.inr (.inl (by rw [e1]; rfl)))⟩
    | ok m =>
      by_cases hlm : 400 < l.length + m.length
      · exact ⟨_, bad (q2 (.inr (.inr ⟨l, m, e0, e1, hlm⟩))) (.inr (.inr ⟨l, m, e0, e1, hlm⟩))⟩
      · have hx := q1 l m e0 e1 (by omega)
        have hl := parse_ok_len e0
        have hm := parse_ok_len e1
        have hlen : ((l ++ m).map mk39).length ≤ 100000 := by simp; omega
        obtain ⟨Ks, ps⟩ := same_refl ((l ++ m).map mk39) hlen (map39_args (parse_args hx))
        refine ⟨Ka + K0 + K1 + K2 + Ks + 1, ?_⟩
        have hw : ¬ wrap64 (((l.map mk39).length : Int) + ((m.map mk39).length : Int)) > 400 := by
          rw [w64 (by simp; omega) (by simp; omega)]; simp; omega
        rw [unf Ks, skiarealaw60_ScriptParts.j0, if_neg (by simp), p0 _ (by omega), some_bind, p1 _ (by omega), some_bind, if_pos (by omega), if_pos (by omega), p2 _ (by omega), some_bind, hx, e0, e1]
        simp only [resS]
        refine (if_pos trivial).trans ((if_pos trivial).trans ((if_neg hw).trans ((if_pos trivial).trans ((if_pos trivial).trans ?_))))
        refine (some_bind _ _).trans ((if_pos (show ([] : List S39).length + (l.map mk39).length < 4398046511104 by simp; omega)).trans ?_)
        refine (some_bind _ _).trans ((if_pos (show (([] : List S39) ++ l.map mk39).length + (m.map mk39).length < 4398046511104 by simp; omega)).trans ?_)
        have := ps (Ka + K0 + K1 + K2 + Ks) (by omega)
        have h3 : skiarearef60_Same.f (Ka + K0 + K1 + K2 + Ks) ((l ++ m).map mk39) (([] : List S39) ++ l.map mk39 ++ m.map mk39) = some true := by
          rw [List.nil_append, ← List.map_append]; exact this
        exact (congrArg (fun o : Option Bool => o.bind fun t => some t) h3).trans rfl
end Go.Proofs.YtjeicglkanfbjaaDoor.Pure
