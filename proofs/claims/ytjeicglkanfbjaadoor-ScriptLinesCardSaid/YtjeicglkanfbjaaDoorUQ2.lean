/- Same of a list with itself; what Reply gives; alive. -/
import Derived.Test.YtjeicglkanfbjaaDoorPUx3
import Derived.Test.YtjeicglkanfbjaaDoorUQ1
import Derived.Lib.ItoaLen
namespace Go.Proofs.YtjeicglkanfbjaaDoor.Pure
open Go.RowKit Go.Proofs.YtjeicglkanfbjaaDoorW.PrintWords Go.Proofs.YtjeicglkanfbjaaDoorW.PrintMore Go.Proofs.YtjeicglkanfbjaaDoor.PU
/-- From some number of rounds on. -/
def Ev {α : Type} (f : Nat → Option α) (r : α) : Prop := ∃ K, ∀ k, K ≤ k → f k = some r
theorem Ev.step {α : Type} {f g : Nat → Option α} {r : α} (h : Ev g r) (e : ∀ k, f (k + 1) = g k) : Ev f r := by
  obtain ⟨K, h⟩ := h
  refine ⟨K + 1, fun k hk => ?_⟩
  obtain ⟨m, rfl⟩ : ∃ m, k = m + 1 := ⟨k - 1, by omega⟩
  rw [e]; exact h m (by omega)
theorem same_l1 (l : List S39) (i : Nat) (hi : i < l.length) (hl : l.length ≤ 100000) (hx : (rd_T39 l (i : Int)).f1.length ≤ 100000) (h0 : Ev (fun k => skiarearef60_Same.l0 k l l ((i + 1 : Nat) : Int)) true) :
    ∀ (d j : Nat), (rd_T39 l (i : Int)).f1.length - j = d → j ≤ (rd_T39 l (i : Int)).f1.length → Ev (fun k => skiarearef60_Same.l1 k l l (i : Int) (j : Int)) true
  | 0, j, hd, hj => by
    refine h0.step fun k => ?_
    rw [skiarearef60_Same.l1, if_pos (by omega), if_pos (by omega), if_neg (by omega), w64 (by omega) (by omega)]
    rfl
  | d + 1, j, hd, hj => by
    refine (same_l1 l i hi hl hx h0 d (j + 1) (by omega) (by omega)).step fun k => ?_
    rw [skiarearef60_Same.l1, if_pos (by omega), if_pos (by omega), if_pos (by omega), if_pos (by omega), if_pos (by omega), if_pos (by omega), if_pos rfl, w64 (by omega) (by omega)]
    rfl
theorem same_l0 (l : List S39) (hl : l.length ≤ 100000) (hx : ∀ i : Nat, (rd_T39 l (i : Int)).f1.length ≤ 100000) : ∀ (d i : Nat), l.length - i = d → i ≤ l.length → Ev (fun k => skiarearef60_Same.l0 k l l (i : Int)) true
  | 0, i, hd, hi => by
    refine ⟨1, fun k hk => ?_⟩
    obtain ⟨m, rfl⟩ : ∃ m, k = m + 1 := ⟨k - 1, by omega⟩
    show skiarearef60_Same.l0 (m + 1) l l (i : Int) = some true
    rw [skiarearef60_Same.l0, if_neg (by omega)]
  | d + 1, i, hd, hi => by
    have h := same_l1 l i (by omega) hl (hx i) (same_l0 l hl hx d (i + 1) (by omega) (by omega)) _ 0 rfl (Nat.zero_le _)
    have h2 : Ev (fun k => skiarearef60_Same.j1 k l l (i : Int) false) true := h.step fun k => by
      rw [skiarearef60_Same.j1, if_neg (by simp)]; rfl
    refine h2.step fun k => ?_
    rw [skiarearef60_Same.l0, if_pos (by omega), if_pos (by omega), if_pos (by omega), if_pos rfl]
    simp
theorem rd_bound (l : List S39) (N : Nat) (h : ∀ e ∈ l, e.f1.length ≤ N) (i : Nat) : (rd_T39 l (i : Int)).f1.length ≤ N := by
  unfold rd_T39
  rw [List.getD_eq_getElem?_getD]
  cases hi : l[(i : Int).toNat]? with
  | none => exact Nat.zero_le _
  | some e => exact h e (List.mem_of_getElem? hi)
theorem same_refl (l : List S39) (hl : l.length ≤ 100000) (hx : ∀ e ∈ l, e.f1.length ≤ 100000) : Ev (fun k => skiarearef60_Same.f k l l) true := by
  obtain ⟨K, h⟩ := same_l0 l hl (rd_bound l _ hx) _ 0 rfl (Nat.zero_le _)
  refine ⟨K, fun k hk => ?_⟩
  show skiarearef60_Same.f k l l = some true
  unfold skiarearef60_Same.f
  rw [if_pos rfl]
  exact h k hk
/-! ### Reply -/
def wf (n : Int) : Prop := -9223372036854775808 ≤ n ∧ n ≤ 9223372036854775807
def replyS (e n : Int) (l : List Int) : List UInt8 := if e = 0 then [111, 107, 32] ++ Lib.itoa n ++ (l.flatMap fun x => 32 :: Lib.itoa x) else [101, 114, 114, 111, 114, 32] ++ Lib.itoa e
theorem itoa_some {n : Int} (h : wf n) : ∃ t : ByteArray, strconv_Itoa.f n = some t ∧ t.data.toList = Lib.itoa n ∧ t.size ≤ 21 := by
  refine ⟨⟨(Lib.itoa n).toArray⟩, ?_, rfl, ?_⟩
  · unfold strconv_Itoa.f itoaF; exact if_pos h
  · rw [← data_size]; exact Lib.itoa_length_le n h.1 h.2
theorem app_data (a b : ByteArray) : (a ++ b).data.toList = a.data.toList ++ b.data.toList := by simp
theorem reply_loop (N : Nat) : ∀ (rest pre : List Int) (s : ByteArray) (k : Nat), (∀ x ∈ rest, wf x) → pre.length + rest.length ≤ 1000000 → s.size ≤ 100 + 22 * pre.length →
    ∃ t : ByteArray, script_Reply.l0 (rest.length + 1 + k) s (pre ++ rest) ((pre ++ rest).length : Int) (pre.length : Int) = some t ∧ t.data.toList = s.data.toList ++ rest.flatMap fun x => 32 :: Lib.itoa x
  | [], pre, s, k, _, _, _ => by
    refine ⟨s, ?_, by simp⟩
    rw [show ([] : List Int).length + 1 + k = k + 1 by simp; omega]
    rw [script_Reply.l0, if_neg (by simp)]
  | x :: rest, pre, s, k, h, hl, hs => by
    obtain ⟨t, e1, e2, e3⟩ := itoa_some (h x (by simp))
    simp only [List.length_cons] at hl
    have hsz : (s ++ ((⟨#[32]⟩ : ByteArray) ++ t)).size = s.size + (1 + t.size) := by simp; rfl
    obtain ⟨u, e4, e5⟩ := reply_loop N rest (pre ++ [x]) (s ++ ((⟨#[32]⟩ : ByteArray) ++ t)) k (fun q hq => h q (by simp [hq])) (by simp; omega) (by rw [hsz]; simp; omega)
    refine ⟨u, ?_, ?_⟩
    · rw [show (x :: rest).length + 1 + k = (rest.length + 1 + k) + 1 by simp; omega]
      have hr : rd (pre ++ x :: rest) (pre.length : Int) = x := by simp [rd]
      rw [script_Reply.l0, if_pos (by simp; omega), if_pos (by omega), if_pos (by simp; omega), hr, e1, some_bind, if_pos (by omega), if_pos (by omega), w64 (by omega) (by omega)]
      simp only [List.append_assoc, List.singleton_append, List.length_append, List.length_cons, List.length_nil, Int.natCast_add] at e4 ⊢
      exact e4
    · rw [e5, app_data, app_data, e2]; simp
theorem reply_law (e n : Int) (l : List Int) (he : wf e) (hn : wf n) (hl : l.length ≤ 1000000) (hw : ∀ x ∈ l, wf x) : ∃ t : ByteArray, t.data.toList = replyS e n l ∧ Ev (fun k => script_Reply.f k e n l) t := by
  unfold replyS
  by_cases h : e = 0
  · obtain ⟨t, e1, e2, e3⟩ := itoa_some hn
    have hsz : ((⟨#[111, 107, 32]⟩ : ByteArray) ++ t).size = 3 + t.size := by simp; rfl
    have hlp := fun k => reply_loop 0 l [] ((⟨#[111, 107, 32]⟩ : ByteArray) ++ t) k hw (by simp; omega) (by rw [hsz]; omega)
    obtain ⟨u, e4, e5⟩ := hlp 0
    refine ⟨u, by rw [if_pos h, e5, app_data, e2], l.length + 1, fun k hk => ?_⟩
    obtain ⟨d, rfl⟩ : ∃ d, k = l.length + 1 + d := ⟨k - (l.length + 1), by omega⟩
    obtain ⟨v, e6, e7⟩ := hlp d
    have huv : v = u := by
      apply ByteArray.ext
      apply Array.toList_inj.1 ?_
      rw [e5, e7]
    show script_Reply.f (l.length + 1 + d) e n l = some u
    unfold script_Reply.f
    rw [if_pos h, e1, some_bind, if_pos (by omega)]
    simp only [List.nil_append, List.length_nil, Int.natCast_zero] at e6
    rw [← huv]; exact e6
  · obtain ⟨t, e1, e2, e3⟩ := itoa_some he
    refine ⟨(⟨#[101, 114, 114, 111, 114, 32]⟩ : ByteArray) ++ t, by rw [if_neg h, app_data, e2], 0, fun k _ => ?_⟩
    show script_Reply.f k e n l = _
    unfold script_Reply.f
    rw [if_neg h, e1, some_bind, if_pos (by omega)]
/-! ### alive -/
theorem itoa10 : Lib.itoa 10 = [49, 48] := by simp [Lib.itoa, Lib.decDigits]
theorem itoa1 : Lib.itoa 1 = [49] := by simp [Lib.itoa, Lib.decDigits]
theorem itoa2 : Lib.itoa 2 = [50] := by simp [Lib.itoa, Lib.decDigits]
theorem itoa3 : Lib.itoa 3 = [51] := by simp [Lib.itoa, Lib.decDigits]
theorem alive_true : Ev (fun k => skiarealaw60_alive.f k) true := by
  obtain ⟨K1, p1⟩ := parse_law ⟨#[116, 105, 99, 107, 32, 54, 48, 10, 35, 32, 120, 10, 112, 97, 115, 115, 32, 53, 32, 49, 10]⟩
  obtain ⟨K2, p2⟩ := parse_law ⟨#[116, 105, 99, 107, 32, 48, 54, 48]⟩
  obtain ⟨K3, p3⟩ := parse_law ⟨#[116, 105, 99, 107]⟩
  obtain ⟨K4, p4⟩ := parse_law ⟨#[116, 111, 99, 107, 32, 49]⟩
  obtain ⟨K5, p5⟩ := parse_law ⟨#[10, 116, 105, 99, 107, 32, 32, 49]⟩
  rw [show resS (parseS (⟨#[116, 105, 99, 107, 32, 54, 48, 10, 35, 32, 120, 10, 112, 97, 115, 115, 32, 53, 32, 49, 10]⟩ : ByteArray).data.toList) = ([⟨1, [60]⟩, ⟨5, [5, 1]⟩], 0, 0) by kernel_rfl] at p1
  rw [show resS (parseS (⟨#[116, 105, 99, 107, 32, 48, 54, 48]⟩ : ByteArray).data.toList) = ([], 1, 3) by kernel_rfl] at p2
  rw [show resS (parseS (⟨#[116, 105, 99, 107]⟩ : ByteArray).data.toList) = ([], 1, 3) by kernel_rfl] at p3
  rw [show resS (parseS (⟨#[116, 111, 99, 107, 32, 49]⟩ : ByteArray).data.toList) = ([], 1, 18) by kernel_rfl] at p4
  rw [show resS (parseS (⟨#[10, 116, 105, 99, 107, 32, 32, 49]⟩ : ByteArray).data.toList) = ([], 2, 3) by kernel_rfl] at p5
  obtain ⟨K6, p6⟩ := same_refl [⟨1, [60]⟩, ⟨5, [5, 1]⟩] (by simp) (by simp)
  obtain ⟨t7, d7, K7, p7⟩ := reply_law 10 0 [] ⟨by decide, by decide⟩ ⟨by decide, by decide⟩ (by simp) (by simp)
  obtain ⟨t8, d8, K8, p8⟩ := reply_law 0 3 [1, 2] ⟨by decide, by decide⟩ ⟨by decide, by decide⟩ (by simp) (by intro x hx; simp at hx; rcases hx with rfl | rfl <;> exact ⟨by decide, by decide⟩)
  have c7 : t7.toList = [101, 114, 114, 111, 114, 32, 49, 48] := by rw [ByteArray.toList_eq, d7]; simp [replyS, itoa10]
  have c8 : t8.toList = [111, 107, 32, 51, 32, 49, 32, 50] := by rw [ByteArray.toList_eq, d8]; simp [replyS, itoa1, itoa2, itoa3]
  refine ⟨K1 + K2 + K3 + K4 + K5 + K6 + K7 + K8 + 2, fun k hk => ?_⟩
  obtain ⟨m, rfl⟩ : ∃ m, k = m + 1 + 1 := ⟨k - 2, by omega⟩
  show skiarealaw60_alive.f (m + 1 + 1) = some true
  unfold skiarealaw60_alive.f
  rw [p1 _ (by omega), some_bind]
  show (if (0 : Int) = 0 then (if (0 : Int) = 0 then _ else _) else _) = _
  rw [if_pos rfl, if_pos rfl]
  have := p6 (m + 1 + 1) (by omega)
  rw [show skiarearef60_Same.f (m + 1 + 1) [⟨1, [60]⟩, ⟨5, [5, 1]⟩] [⟨1, [60]⟩, ⟨5, [5, 1]⟩] = some true from this, some_bind]
  rw [skiarealaw60_alive.j0, if_neg (by simp), p2 _ (by omega), some_bind, p3 _ (by omega), some_bind, p4 _ (by omega), some_bind, p5 _ (by omega), some_bind]
  show (if (1 : Int) = 1 then (if (3 : Int) = 3 then (if (1 : Int) = 1 then (if (3 : Int) = 3 then (if (1 : Int) = 1 then (if (18 : Int) = 18 then (if (2 : Int) = 2 then skiarealaw60_alive.j1 (m + 1) ((3 : Int) != 3) else _) else _) else _) else _) else _) else _) else _) = _
  rw [if_pos rfl, if_pos rfl, if_pos rfl, if_pos rfl, if_pos rfl, if_pos rfl, if_pos rfl, skiarealaw60_alive.j1, if_neg (by simp)]
  rw [show script_Reply.f m 10 0 [] = some t7 from p7 _ (by omega), some_bind, if_pos c7, show script_Reply.f m 0 3 [1, 2] = some t8 from p8 _ (by omega), some_bind, c8]
  rfl
end Go.Proofs.YtjeicglkanfbjaaDoor.Pure
