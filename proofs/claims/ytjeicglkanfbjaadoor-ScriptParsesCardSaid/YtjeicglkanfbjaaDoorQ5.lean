/- The reference's line gives what a line means. -/
import Derived.Test.YtjeicglkanfbjaaDoorQ4
namespace Go.Proofs.YtjeicglkanfbjaaDoor.Pure
open Go.RowKit Go.Proofs.YtjeicglkanfbjaaDoorW.PrintWords Go.Proofs.YtjeicglkanfbjaaDoorW.PrintMore Go.Proofs.YtjeicglkanfbjaaDoor.PT
/-- Two calls in one round. -/
theorem Ev.step2 {α β : Type} {f : Nat → Option α} {g : Nat → Option α} {h : Nat → Option β} {r : α} {b : β} (hg : Ev g r) (hh : Ev h b) (e : ∀ k, h k = some b → f (k + 1) = g k) : Ev f r := by
  obtain ⟨K1, hg⟩ := hg
  obtain ⟨K2, hh⟩ := hh
  refine ⟨K1 + K2 + 1, fun k hk => ?_⟩
  obtain ⟨m, rfl⟩ : ∃ m, k = m + 1 := ⟨k - 1, by omega⟩
  rw [e m (hh m (by omega))]; exact hg m (by omega)
theorem Ev.last {α β : Type} {f : Nat → Option α} {h : Nat → Option β} {r : α} {b : β} (hh : Ev h b) (e : ∀ k, h k = some b → f (k + 1) = some r) : Ev f r := by
  obtain ⟨K2, hh⟩ := hh
  refine ⟨K2 + 1, fun k hk => ?_⟩
  obtain ⟨m, rfl⟩ : ∃ m, k = m + 1 := ⟨k - 1, by omega⟩
  exact e m (hh m (by omega))
def lineS : Except Int (Int × List Int) → Int × List Int × Int
  | .ok e => (e.1, e.2, 0)
  | .error c => (0, [], c)
theorem line_l1 (kd : Int) : ∀ (rest pre : List ByteArray) (acc : List Int), (∀ p ∈ rest, good p) → pre.length + rest.length ≤ 40000 → acc.length ≤ pre.length →
    Ev (fun k => skiarearef60_line.l1 k (pre ++ rest) (pre.length : Int) kd acc) (if (rest.all fun p => inR p.data.toList) = true then (kd, acc ++ rest.map fun p => valS p.data.toList, 0) else (0, [], 2))
  | [], pre, acc, _, _, _ => by
    refine Ev.one fun k => ?_
    show skiarearef60_line.l1 (k + 1) (pre ++ []) (pre.length : Int) kd acc = _
    rw [skiarearef60_line.l1, if_neg (by simp)]
    simp
  | p :: rest, pre, acc, h, hl, ha => by
    obtain ⟨h1, h2⟩ := h p (by simp)
    obtain ⟨n, e1, e2⟩ := value_law p h1 h2
    simp only [List.length_cons] at hl
    rw [List.all_cons]
    by_cases h3 : inR p.data.toList = true
    · have ih := line_l1 kd rest (pre ++ [p]) (acc ++ [n]) (fun q hq => h q (by simp [hq])) (by simp; omega) (by simp; omega)
      rw [h3, Bool.true_and]
      simp only [List.append_assoc, List.singleton_append, List.length_append, List.length_cons, List.length_nil, Int.natCast_add] at ih
      rw [e2 h3] at ih e1
      rw [h3] at e1
      refine Ev.step2 (g := fun k => skiarearef60_line.l1 k (pre ++ p :: rest) ((pre.length : Int) + (((0 : Nat) : Int) + ((1 : Nat) : Int))) kd (acc ++ [valS p.data.toList])) (by simpa using ih) e1 fun k hk => ?_
      show skiarearef60_line.l1 (k + 1) (pre ++ p :: rest) (pre.length : Int) kd acc = _
      rw [skiarearef60_line.l1, if_pos (by simp; omega), if_pos (by omega), rdOf_at, hk, some_bind]
      show (if true = true then _ else _) = _
      rw [if_pos rfl, if_pos (by omega), w64 (by omega) (by omega)]
      rfl
    · have hf : inR p.data.toList = false := by simpa using h3
      rw [hf, Bool.false_and, if_neg (by simp)]
      rw [hf] at e1
      refine Ev.last e1 fun k hk => ?_
      show skiarearef60_line.l1 (k + 1) (pre ++ p :: rest) (pre.length : Int) kd acc = _
      rw [skiarearef60_line.l1, if_pos (by simp; omega), if_pos (by omega), rdOf_at, hk, some_bind]
      show (if false = true then _ else _) = _
      rw [if_neg (by simp)]
theorem line_l0 (kd : Int) (h1 : 1 ≤ kd) (h2 : kd ≤ 44) (Y : Int × List Int × Int) : ∀ (rest pre : List ByteArray), (∀ p ∈ rest, p.size ≤ 30000) → pre.length + rest.length ≤ 40000 → 1 ≤ pre.length →
    ((rest.all fun p => okNum p.data.toList) = true → Ev (fun k => skiarearef60_line.l1 k (pre ++ rest) 1 kd []) Y) →
    Ev (fun k => skiarearef60_line.l0 k (pre ++ rest) (pre.length : Int) kd) (if ((rest.all fun p => okNum p.data.toList) && fitsS kd (((pre ++ rest).length : Int) - 1)) = true then Y else (0, [], 3))
  | [], pre, _, hl, hp, hY => by
    have hw : wrap64 (((pre ++ []).length : Int) - 1) = ((pre ++ ([] : List ByteArray)).length : Int) - 1 := w64 (by simp; omega) (by simp; omega)
    have hx : ∀ k, skiarearef60_line.l0 (k + 1) (pre ++ []) (pre.length : Int) kd = if fitsS kd (((pre ++ ([] : List ByteArray)).length : Int) - 1) = true then skiarearef60_line.l1 k (pre ++ []) 1 kd [] else some (0, [], 3) := fun k => by
      rw [skiarearef60_line.l0, if_neg (by simp), hw, fits_ref kd _ h1 h2, some_bind]
    simp only [List.all_nil, Bool.true_and]
    by_cases hf : fitsS kd (((pre ++ ([] : List ByteArray)).length : Int) - 1) = true
    · rw [if_pos hf]
      exact (hY rfl).step fun k => by
        show skiarearef60_line.l0 (k + 1) (pre ++ []) (pre.length : Int) kd = _
        rw [hx, if_pos hf]
    · rw [if_neg hf]
      exact Ev.one fun k => by
        show skiarearef60_line.l0 (k + 1) (pre ++ []) (pre.length : Int) kd = _
        rw [hx, if_neg hf]
  | p :: rest, pre, h, hl, hp, hY => by
    have hs := h p (by simp)
    have e1 := form_law p hs
    simp only [List.length_cons] at hl
    rw [List.all_cons]
    by_cases h3 : okNum p.data.toList = true
    · have ih := line_l0 kd h1 h2 Y rest (pre ++ [p]) (fun q hq => h q (by simp [hq])) (by simp; omega) (by simp) (fun ho => by have := hY (by rw [List.all_cons, h3, ho]; rfl); simpa using this)
      rw [h3, Bool.true_and]
      rw [h3] at e1
      simp only [List.append_assoc, List.singleton_append] at ih
      have hn : (((pre ++ [p]).length : Nat) : Int) = (pre.length : Int) + 1 := by simp
      rw [hn] at ih
      refine Ev.step2 ih e1 fun k hk => ?_
      show skiarearef60_line.l0 (k + 1) (pre ++ p :: rest) (pre.length : Int) kd = _
      rw [skiarearef60_line.l0, if_pos (by simp; omega), if_pos (by omega), rdOf_at, hk, some_bind, if_pos rfl, w64 (by omega) (by omega)]
    · have hf : okNum p.data.toList = false := by simpa using h3
      rw [hf, Bool.false_and, Bool.false_and, if_neg (by simp)]
      rw [hf] at e1
      refine Ev.last e1 fun k hk => ?_
      show skiarearef60_line.l0 (k + 1) (pre ++ p :: rest) (pre.length : Int) kd = _
      rw [skiarearef60_line.l0, if_pos (by simp; omega), if_pos (by omega), rdOf_at, hk, some_bind, if_neg (by simp)]
theorem line_law (a : ByteArray) (hs : a.size ≤ 30000) : Ev (fun k => skiarearef60_line.f k a) (lineS (evS a.data.toList)) := by
  obtain ⟨r, e1, e2⟩ := cut_law a hs
  have hl := splitOn_len0 32 a.data.toList
  cases r with
  | nil => exact absurd e2.symm (splitOn_ne _ _)
  | cons w ps =>
    simp only [List.map_cons] at e2
    rw [← e2, data_size] at hl
    have hg : ∀ p ∈ ps, p.size ≤ 30000 := fun p hp => by
      have := hl.2 _ (List.mem_cons_of_mem _ (List.mem_map_of_mem (f := fun x : ByteArray => x.data.toList) hp)); rw [data_size] at this; omega
    have hn : ps.length ≤ 30000 := by have := hl.1; simp at this; omega
    have ek := kind_law w
    unfold evS
    rw [← e2]
    dsimp only
    have hf : ∀ k, skiarearef60_cut.f k a = some (w :: ps) → skiarearef60_Kind.f k w = some (kindS w.data.toList) → skiarearef60_line.f k a = if kindS w.data.toList = 0 then some (0, [], 18) else skiarearef60_line.l0 k (w :: ps) 1 (kindS w.data.toList) := fun k h1 h2 => by
      unfold skiarearef60_line.f
      rw [h1, some_bind, if_pos (by simp)]
      have : rdOf ByteArray.empty (w :: ps) 0 = w := by simp [rdOf]
      rw [this, h2, some_bind]
    obtain ⟨K1, e1⟩ := e1
    obtain ⟨K2, ek⟩ := ek
    rcases kindS_range w.data.toList with hk | ⟨hk1, hk2⟩
    · refine ⟨K1 + K2, fun k hkk => ?_⟩
      show skiarearef60_line.f k a = _
      rw [hf k (e1 k (by omega)) (ek k (by omega)), if_pos hk, if_pos hk]
      rfl
    · have hk : ¬ kindS w.data.toList = 0 := by omega
      rw [if_neg hk]
      have hlen : (((w :: ps).length : Nat) : Int) - 1 = (ps.length : Int) := by simp
      have g0 : ∀ Y, ((ps.all fun p => okNum p.data.toList) = true → Ev (fun k => skiarearef60_line.l1 k (w :: ps) 1 (kindS w.data.toList) []) Y) → Ev (fun k => skiarearef60_line.f k a) (if ((ps.all fun p => okNum p.data.toList) && fitsS (kindS w.data.toList) (ps.length : Int)) = true then Y else (0, [], 3)) := fun Y hY => by
        have := line_l0 (kindS w.data.toList) hk1 hk2 Y ps [w] hg (by simp; omega) (by simp) hY
        have this : Ev (fun k => skiarearef60_line.l0 k (w :: ps) 1 (kindS w.data.toList)) (if ((ps.all fun p => okNum p.data.toList) && fitsS (kindS w.data.toList) (ps.length : Int)) = true then Y else (0, [], 3)) := by
          have hq : (((([w] ++ ps : List ByteArray)).length : Nat) : Int) - 1 = (ps.length : Int) := by simp
          simp only [hq] at this
          exact this
        obtain ⟨K3, h3⟩ := this
        refine ⟨K1 + K2 + K3, fun k hkk => ?_⟩
        show skiarearef60_line.f k a = _
        rw [hf k (e1 k (by omega)) (ek k (by omega)), if_neg hk]
        exact h3 k (by omega)
      simp only [all_map, List.length_map, List.map_map]
      have h2 := g0 (if (ps.all fun p => inR p.data.toList) = true then (kindS w.data.toList, ps.map fun p => valS p.data.toList, 0) else (0, [], 2)) (fun ho => by
        have h1 := line_l1 (kindS w.data.toList) ps [w] [] (fun p hp => ⟨hg p hp, List.all_eq_true.1 ho p hp⟩) (by simp; omega) (by simp)
        simpa using h1)
      by_cases hb : ((ps.all fun p => okNum p.data.toList) && fitsS (kindS w.data.toList) (ps.length : Int)) = true
      · rw [if_pos hb] at h2 ⊢
        by_cases hr : (ps.all fun p => inR p.data.toList) = true
        · rw [if_pos hr] at h2 ⊢; exact h2
        · rw [if_neg hr] at h2 ⊢; exact h2
      · rw [if_neg hb] at h2 ⊢; exact h2
end Go.Proofs.YtjeicglkanfbjaaDoor.Pure
