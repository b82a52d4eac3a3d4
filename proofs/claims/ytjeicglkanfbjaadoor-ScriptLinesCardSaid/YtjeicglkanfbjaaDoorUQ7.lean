/- The reference's numbers and replies. -/
import Derived.Test.YtjeicglkanfbjaaDoorPUx3
import Derived.Test.YtjeicglkanfbjaaDoorUQ2
import Derived.Lib.ItoaMem
namespace Go.Proofs.YtjeicglkanfbjaaDoor.Pure
open Go.RowKit Go.Proofs.YtjeicglkanfbjaaDoorW.PrintWords Go.Proofs.YtjeicglkanfbjaaDoorW.PrintMore Go.Proofs.YtjeicglkanfbjaaDoor.PU
theorem dec_len (n : Nat) (h : n ≤ 9223372036854775807) : (Lib.decDigits n).length ≤ 21 := by
  rw [← Lib.itoa_nonneg]; exact Lib.itoa_length_le _ (by omega) (by omega)
theorem dec_small {n : Nat} (h : n < 10) : Lib.decDigits n = [UInt8.ofNat (48 + n)] := by rw [Lib.decDigits, dif_pos h]
theorem dec_big {n : Nat} (h : ¬ n < 10) : Lib.decDigits n = Lib.decDigits (n / 10) ++ [UInt8.ofNat (48 + n % 10)] := by rw [Lib.decDigits, dif_neg h]
theorem Ev.one' {α : Type} {f : Nat → Option α} {r : α} (e : ∀ k, f (k + 1) = some r) : Ev f r := ⟨1, fun k hk => by
  obtain ⟨m, rfl⟩ : ∃ m, k = m + 1 := ⟨k - 1, by omega⟩
  exact e m⟩
theorem digits_law : ∀ (n : Nat), n ≤ 9223372036854775807 → ∃ t : ByteArray, t.data.toList = Lib.decDigits n ∧ Ev (fun k => skiarearef60_digits.f k (n : Int)) t := by
  intro n
  induction n using Nat.strongRecOn with
  | _ n ih =>
  intro hn
  by_cases h : n < 10
  · refine ⟨strOfNums [(wrap64 (48 + (n : Int))) % 256], ?_, Ev.one' fun k => ?_⟩
    · rw [dec_small h, w64 (by omega) (by omega)]
      have e : ((48 + (n : Int)) % 256) = ((48 + n : Nat) : Int) := by omega
      rw [e]
      unfold strOfNums
      have e2 : (((48 + n : Nat) : Int)).toNat = 48 + n := by omega
      simp only [List.map_cons, List.map_nil, e2]
    · show skiarearef60_digits.f (k + 1) (n : Int) = _
      rw [skiarearef60_digits.f, if_pos (by omega)]
  · obtain ⟨t, d1, K1, h1⟩ := ih (n / 10) (by omega) (by omega)
    obtain ⟨u, d2, K2, h2⟩ := ih (n % 10) (by omega) (by omega)
    have s1 : t.size ≤ 21 := by rw [← data_size, d1]; exact dec_len _ (by omega)
    have s2 : u.size ≤ 21 := by rw [← data_size, d2]; exact dec_len _ (by omega)
    refine ⟨t ++ u, by rw [app_data, d1, d2, dec_big h, dec_small (by omega : n % 10 < 10)], K1 + K2 + 1, fun k hk => ?_⟩
    obtain ⟨m, rfl⟩ : ∃ m, k = m + 1 := ⟨k - 1, by omega⟩
    show skiarearef60_digits.f (m + 1) (n : Int) = _
    have e1 : wrap64 (Int.tdiv (n : Int) 10) = ((n / 10 : Nat) : Int) := by
      have : Int.tdiv (n : Int) 10 = ((n / 10 : Nat) : Int) := by rw [Int.tdiv_eq_ediv_of_nonneg (by omega)]; omega
      rw [this, w64 (by omega) (by omega)]
    have e2 : Int.tmod (n : Int) 10 = ((n % 10 : Nat) : Int) := by rw [Int.tmod_eq_emod_of_nonneg (by omega)]; omega
    rw [skiarearef60_digits.f, if_neg (by omega), e1, e2]
    have h1 := h1 m (by omega)
    have h2 := h2 m (by omega)
    dsimp only at h1 h2
    rw [h1, some_bind, h2, some_bind, if_pos (by omega)]
theorem number_law (n : Int) (h : wf n) : ∃ t : ByteArray, t.data.toList = Lib.itoa n ∧ Ev (fun k => skiarearef60_Number.f k n) t := by
  unfold Lib.itoa
  obtain ⟨ha, hb⟩ := h
  by_cases h0 : n ≥ 0
  · obtain ⟨t, d1, K1, h1⟩ := digits_law n.toNat (by omega)
    rw [show ((n.toNat : Nat) : Int) = n by omega] at h1
    refine ⟨t, by rw [if_neg (by omega), d1], K1, fun k hk => ?_⟩
    show skiarearef60_Number.f k n = _
    have h1 := h1 k hk
    dsimp only at h1
    unfold skiarearef60_Number.f
    rw [if_pos h0, h1, some_bind]
  · rw [if_pos (by omega)]
    by_cases h9 : n > -10
    · obtain ⟨t, d1, K1, h1⟩ := digits_law n.natAbs (by omega)
      have s1 : t.size ≤ 21 := by rw [← data_size, d1]; exact dec_len _ (by omega)
      refine ⟨(⟨#[45]⟩ : ByteArray) ++ t, by rw [app_data, d1]; rfl, K1, fun k hk => ?_⟩
      show skiarearef60_Number.f k n = _
      have h1 := h1 k hk
      dsimp only at h1
      unfold skiarearef60_Number.f
      rw [if_neg h0, if_pos h9, w64 (by omega) (by omega), show -n = ((n.natAbs : Nat) : Int) by omega, h1, some_bind, if_pos (by omega)]
    · obtain ⟨t, d1, K1, h1⟩ := digits_law (n.natAbs / 10) (by omega)
      obtain ⟨u, d2, K2, h2⟩ := digits_law (n.natAbs % 10) (by omega)
      have s1 : t.size ≤ 21 := by rw [← data_size, d1]; exact dec_len _ (by omega)
      have s2 : u.size ≤ 21 := by rw [← data_size, d2]; exact dec_len _ (by omega)
      refine ⟨((⟨#[45]⟩ : ByteArray) ++ t) ++ u, ?_, K1 + K2, fun k hk => ?_⟩
      · rw [app_data, app_data, d1, d2, dec_big (by omega : ¬ n.natAbs < 10), dec_small (by omega : n.natAbs % 10 < 10)]
        simp
      · show skiarearef60_Number.f k n = _
        have h1 := h1 k (by omega)
        have h2 := h2 k (by omega)
        dsimp only at h1 h2
        obtain ⟨m, hm⟩ : ∃ m : Nat, n = -(m : Int) := ⟨n.natAbs, by omega⟩
        have e0 : n.natAbs = m := by omega
        have e1 : wrap64 (-(wrap64 (Int.tdiv n 10))) = ((n.natAbs / 10 : Nat) : Int) := by
          have : Int.tdiv n 10 = -((m / 10 : Nat) : Int) := by rw [hm, Int.neg_tdiv, Int.tdiv_eq_ediv_of_nonneg (by omega)]; omega
          have hi : wrap64 (-((m / 10 : Nat) : Int)) = -((m / 10 : Nat) : Int) := w64 (by omega) (by omega)
          rw [this, e0, hi, w64 (by omega) (by omega)]; omega
        have e2 : wrap64 (-(Int.tmod n 10)) = ((n.natAbs % 10 : Nat) : Int) := by
          have : Int.tmod n 10 = -((m % 10 : Nat) : Int) := by rw [hm, Int.neg_tmod, Int.tmod_eq_emod_of_nonneg (by omega)]; omega
          rw [this, e0, w64 (by omega) (by omega)]; omega
        unfold skiarearef60_Number.f
        rw [if_neg h0, if_neg h9, e1, e2, h1, some_bind, if_pos (by omega), h2, some_bind, if_pos (by omega)]
end Go.Proofs.YtjeicglkanfbjaaDoor.Pure
