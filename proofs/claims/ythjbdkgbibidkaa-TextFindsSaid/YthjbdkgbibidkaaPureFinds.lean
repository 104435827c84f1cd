/- The plain law of TextFinds. -/
import Derived.Test.YthjbdkgbibidkaaPureCuts
namespace Go.Proofs.Ythjbdkgbibidkaa.Pure
open Go.RowKit Go.Proofs.Ythjbdkgbibidkaa.Pr Go.Proofs.YthjbdkgbibidkaaW.PrintWords Go.Proofs.YthjbdkgbibidkaaW.PrintLast Go.Proofs.YthjbdkgbibidkaaW.PrintMore
set_option linter.unusedVariables false
set_option linter.unusedSimpArgs false
theorem refFind_far (s t : ByteArray) (f : Int) (hs : s.size ≤ 3000) (ht : t.size ≤ 140737488351232) (q : Nat) (c : f > s.size + 1) : minstrelref15_Find.l0 (q + s.size + 1) s t s.size t.size f = some (0, false) := by
  simp only [minstrelref15_Find.l0]
  rw [wrap_room _ _ hs ht, if_neg (by omega)]
theorem refFind_near (s t : ByteArray) (k : Nat) (hs : s.size ≤ 3000) (ht : t.size ≤ 140737488351232) (q : Nat) (c : k ≤ s.size) : minstrelref15_Find.l0 (q + s.size + 1) s t s.size t.size ((k + 1 : Nat) : Int) = some (findR ((bytes s).drop k) (bytes t) ((k + 1 : Nat) : Int)) := by
  have := refFind_run s t hs ht k (s.size - k) 0 (by omega) (Lib.NoOcc.zero _ _) (q + k)
  rw [show q + k + (s.size - k) + 1 = q + s.size + 1 by omega, Nat.add_zero] at this
  exact this
theorem refFind_from (s t : ByteArray) (f : Int) (hs : s.size ≤ 3000) (ht : t.size ≤ 140737488351232) (q : Nat) (m1 : 1 ≤ f) : minstrelref15_Find.l0 (q + s.size + 1) s t s.size t.size f = some (if f > s.size + 1 then (0, false) else findR ((bytes s).drop (f - 1).toNat) (bytes t) f) := by
  by_cases c : f > s.size + 1
  · rw [if_pos c]
    exact refFind_far s t f hs ht q c
  · rw [if_neg c]
    obtain ⟨k, hk⟩ : ∃ k : Nat, f = ((k + 1 : Nat) : Int) := ⟨(f - 1).toNat, by omega⟩
    subst hk
    rw [show (((k + 1 : Nat) : Int) - 1).toNat = k by omega]
    exact refFind_near s t k hs ht q (by omega)
theorem mx_one (a : Int) : 1 ≤ mx a 1 := by unfold mx; split <;> omega
theorem At_one (q : Nat) (s : ByteArray) (i : Int) (hs : s.size ≤ 3000) (hi : -9223372036854775808 ≤ i ∧ i ≤ 9223372036854775807) : minstrelref15_At.f (q + 1) i s.size 1 = some (mx (pl i s.size) 1) :=
  At_eq q i s.size 1 hi (by omega) (by omega) (.inr rfl)
theorem refFind_eq (s t : ByteArray) (from_ : Int) (hs : s.size ≤ 3000) (ht : t.size ≤ 140737488351232) (hf : -9223372036854775808 ≤ from_ ∧ from_ ≤ 9223372036854775807) (q : Nat) :
    minstrelref15_Find.f (q + s.size + 1) s t from_ = some (if mx (pl from_ s.size) 1 > s.size + 1 then (0, false) else findR ((bytes s).drop (mx (pl from_ s.size) 1 - 1).toNat) (bytes t) (mx (pl from_ s.size) 1)) := by
  have e := refFind_from s t (mx (pl from_ s.size) 1) hs ht q (mx_one _)
  rw [← e]
  unfold minstrelref15_Find.f
  rw [At_one (q + s.size) s from_ hs hf, Option.bind_some]
/-- What was found stands there. -/
theorem found (s t : ByteArray) (k i : Nat) (hk : k ≤ s.size) (hs : s.size ≤ 3000) (ht : t.size ≤ 140737488351232) (hr : i + (bytes t).length ≤ ((bytes s).drop k).length) (hx : (((bytes s).drop k).drop i).take (bytes t).length = bytes t) :
    text_Sub.f s ((k + i + 1 : Nat) : Int) (wrap64 (wrap64 (((k + i + 1 : Nat) : Int) + (t.size : Int)) - 1)) = some t := by
  simp only [List.length_drop, bytes_length] at hr
  rw [wrap_sum _ _ (by omega), show k + i + 1 + t.size = (k + i + t.size) + 1 by omega, wrap_pred _ (by omega), Sub_eq s _ _ (by omega) (by omega) (by omega), sub_at s (k + i) (k + i + t.size) (by omega) (by omega)]
  congr 1
  apply ba_ext
  rw [bytes_extract, List.drop_take, show k + i + t.size - (k + i) = t.size by omega, ← List.drop_drop, ← bytes_length t]
  exact hx
theorem TextFinds_end (k : Nat) (s t : ByteArray) (f : Int) (hs : s.size ≤ 3000) (ht : t.size ≤ 140737488351232) (m1 : 1 ≤ f) (p : Int × Bool) (hp : p = if f > s.size + 1 then (0, false) else findR ((bytes s).drop (f - 1).toNat) (bytes t) f) :
    minstrellaw15_TextFinds.j0 (k + 1) s t p.1 p.2 false = some true := by
  simp only [minstrellaw15_TextFinds.j0]
  rw [if_neg (by decide)]
  by_cases d : f > s.size + 1
  · rw [if_pos d] at hp
    subst hp
    rw [if_neg (by decide), lives_true]
    rfl
  · rw [if_neg d] at hp
    unfold findR at hp
    by_cases e : Lib.index ((bytes s).drop (f - 1).toNat) (bytes t) < 0
    · rw [if_pos e] at hp
      subst hp
      rw [if_neg (by decide), lives_true]
      rfl
    · rw [if_neg e] at hp
      obtain ⟨i, hi, hr, hx⟩ := occ_at _ _ e
      obtain ⟨k, hk⟩ : ∃ k : Nat, f = ((k + 1 : Nat) : Int) := ⟨(f - 1).toNat, by omega⟩
      have hk0 : (f - 1).toNat = k := by omega
      have hks : k ≤ s.size := by omega
      rw [hi] at hp
      rw [hk0] at hr hx
      have hq : f + (i : Int) = ((k + i + 1 : Nat) : Int) := by omega
      rw [hq] at hp
      subst hp
      rw [if_pos rfl, found s t k i hks hs ht hr hx, Option.bind_some, if_pos rfl, lives_true]
      rfl
theorem TextFinds (a0 a1 : ByteArray) (a2 : Int) (w0 : a0.size ≤ 140737488351232) (w1 : a1.size ≤ 140737488351232) (w2 : (Lit.int .i64 a2).wf = true) : ∃ k, minstrellaw15_TextFinds.f k a0 a1 a2 = some true := by
  refine ⟨0 + a0.size + 1, ?_⟩
  unfold minstrellaw15_TextFinds.f
  by_cases c : (a0.size : Int) > 3000
  · rw [if_pos c, lives_true]
    rfl
  · have hs : a0.size ≤ 3000 := by omega
    rw [if_neg c, Find_eq a0 a1 a2 hs (bounds_i64' w2), Option.bind_some, refFind_eq a0 a1 a2 hs w1 (bounds_i64' w2) 0, Option.bind_some, if_pos rfl, bne_self_eq_false]
    exact TextFinds_end (0 + a0.size) a0 a1 _ hs w1 (mx_one _) _ rfl
end Go.Proofs.Ythjbdkgbibidkaa.Pure
