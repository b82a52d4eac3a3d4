import Derived.Test.YtjeicglkanfbjaaDoorQ7
namespace Go.Proofs.YtjeicglkanfbjaaDoor.Pure
open Go.RowKit Go.Proofs.YtjeicglkanfbjaaDoor.PT Go.Proofs.YtjeicglkanfbjaaDoorW.PrintWords Go.Proofs.YtjeicglkanfbjaaDoorW.PrintLast
theorem itoa_len {n : Int} (h : wf n) : (Lib.itoa n).length ≤ 21 := Lib.itoa_length_le n h.1 h.2
theorem refReply_loop (a b : Int) (l : List Int) (hl : l.length ≤ 1000000) (hw : ∀ x ∈ l, wf x) : ∀ (d i : Nat) (s : ByteArray), l.length - i = d → i ≤ l.length → s.size ≤ 100 + 22 * i →
    ∃ t : ByteArray, t.data.toList = s.data.toList ++ (l.drop i).flatMap (fun x => 32 :: Lib.itoa x) ∧ Ev (fun k => skiarearef60_Reply.l0 k s (i : Int) a b l) t
  | 0, i, s, hd, hi, hs => by
    refine ⟨s, by rw [List.drop_eq_nil_of_le (by omega)]; simp, Ev.one' fun k => ?_⟩
    show skiarearef60_Reply.l0 (k + 1) s (i : Int) a b l = _
    rw [skiarearef60_Reply.l0, if_neg (by omega)]
  | d + 1, i, s, hd, hi, hs => by
    have hlt : i < l.length := by omega
    have hx := hw _ (List.getElem_mem hlt)
    obtain ⟨t, d1, K1, h1⟩ := number_law l[i] hx
    have s1 : t.size ≤ 21 := by rw [← data_size, d1]; exact itoa_len hx
    have hsz : ((s ++ (⟨#[32]⟩ : ByteArray)) ++ t).size = s.size + 1 + t.size := by
      rw [ByteArray.size_append, ByteArray.size_append]; rfl
    obtain ⟨u, d2, K2, h2⟩ := refReply_loop a b l hl hw d (i + 1) ((s ++ (⟨#[32]⟩ : ByteArray)) ++ t) (by omega) (by omega) (by rw [hsz]; omega)
    refine ⟨u, ?_, K1 + K2 + 1, fun k hk => ?_⟩
    · have e : l.drop i = l[i] :: l.drop (i + 1) := List.drop_eq_getElem_cons hlt
      rw [d2, app_data, app_data, d1, e, List.flatMap_cons]
      simp only [List.append_assoc]
      rfl
    · obtain ⟨m, rfl⟩ : ∃ m, k = m + 1 := ⟨k - 1, by omega⟩
      show skiarearef60_Reply.l0 (m + 1) s (i : Int) a b l = _
      have h1 := h1 m (by omega)
      have h2 := h2 m (by omega)
      dsimp only at h1 h2
      have hr : rd l (i : Int) = l[i] := by simp [rd, hlt]
      rw [skiarearef60_Reply.l0, if_pos (by omega), if_pos (by omega), if_pos (by omega), hr, h1, some_bind, if_pos (by omega), w64 (by omega) (by omega)]
      exact h2
theorem refReply_law (e n : Int) (l : List Int) (he : wf e) (hn : wf n) (hl : l.length ≤ 1000000) (hw : ∀ x ∈ l, wf x) : ∃ t : ByteArray, t.data.toList = replyS e n l ∧ Ev (fun k => skiarearef60_Reply.f k e n l) t := by
  unfold replyS
  by_cases h : e = 0
  · obtain ⟨t, d1, K1, h1⟩ := number_law n hn
    have s1 : t.size ≤ 21 := by rw [← data_size, d1]; exact itoa_len hn
    have hsz : ((⟨#[111, 107, 32]⟩ : ByteArray) ++ t).size = 3 + t.size := by rw [ByteArray.size_append]; rfl
    obtain ⟨u, d2, K2, h2⟩ := refReply_loop e n l hl hw _ 0 ((⟨#[111, 107, 32]⟩ : ByteArray) ++ t) rfl (Nat.zero_le _) (by rw [hsz]; omega)
    refine ⟨u, by rw [if_pos h, d2, app_data, d1]; rfl, K1 + K2, fun k hk => ?_⟩
    show skiarearef60_Reply.f k e n l = _
    have h1 := h1 k (by omega)
    have h2 := h2 k (by omega)
    dsimp only at h1 h2
    unfold skiarearef60_Reply.f
    rw [if_pos h, h1, some_bind, if_pos (by omega)]
    exact h2
  · obtain ⟨t, d1, K1, h1⟩ := number_law e he
    have s1 : t.size ≤ 21 := by rw [← data_size, d1]; exact itoa_len he
    refine ⟨(⟨#[101, 114, 114, 111, 114, 32]⟩ : ByteArray) ++ t, by rw [if_neg h, app_data, d1], K1, fun k hk => ?_⟩
    show skiarearef60_Reply.f k e n l = _
    have h1 := h1 k hk
    dsimp only at h1
    unfold skiarearef60_Reply.f
    rw [if_neg h, h1, some_bind, if_pos (by omega)]
theorem ScriptReplies_true (e n : Int) (l : List Int) (he : wf e) (hn : wf n) (hw : ∀ x ∈ l, wf x) : ∃ k, skiarealaw60_ScriptReplies.f k e n l = some true := by
  obtain ⟨Ka, ha⟩ := alive_true
  by_cases hl : (l.length : Int) > 100
  · refine ⟨Ka, ?_⟩
    have ha := ha Ka (Nat.le_refl _)
    dsimp only at ha
    unfold skiarealaw60_ScriptReplies.f
    rw [ha, some_bind, if_pos rfl, if_pos hl]
  · obtain ⟨t, d1, K1, h1⟩ := reply_law e n l he hn (by omega) hw
    obtain ⟨u, d2, K2, h2⟩ := refReply_law e n l he hn (by omega) hw
    refine ⟨Ka + K1 + K2, ?_⟩
    have ha := ha (Ka + K1 + K2) (by omega)
    have h1 := h1 (Ka + K1 + K2) (by omega)
    have h2 := h2 (Ka + K1 + K2) (by omega)
    dsimp only at ha h1 h2
    unfold skiarealaw60_ScriptReplies.f
    rw [ha, some_bind, if_pos rfl, if_neg hl, h1, some_bind, h2, some_bind, ByteArray.toList_eq, ByteArray.toList_eq, d1, d2]
    simp
end Go.Proofs.YtjeicglkanfbjaaDoor.Pure
