/- The plain law of TextCuts, and what Find comes to. -/
import Derived.Test.YthjbdkgbibidkaaPureText
namespace Go.Proofs.Ythjbdkgbibidkaa.Pure
open Go.RowKit Go.Proofs.Ythjbdkgbibidkaa.Pr Go.Proofs.YthjbdkgbibidkaaW.PrintWords Go.Proofs.YthjbdkgbibidkaaW.PrintLast Go.Proofs.YthjbdkgbibidkaaW.PrintMore
set_option linter.unusedVariables false
set_option linter.unusedSimpArgs false
theorem pl_of_nonneg {i : Int} (n : Int) (h : 0 ≤ i) : pl i n = i := by unfold pl; rw [if_pos h]
/-- A part whose places are in order. -/
theorem sub_at (s : ByteArray) (a b : Nat) (ha : a ≤ b) (hb : b ≤ s.size) : sub s ((a + 1 : Nat) : Int) (b : Int) = s.extract a b := by
  unfold sub
  rw [pl_of_nonneg _ (by omega), pl_of_nonneg _ (by omega)]
  have m1 : mx ((a + 1 : Nat) : Int) 1 = ((a + 1 : Nat) : Int) := by unfold mx; rw [if_neg (by omega)]
  have m2 : mn (b : Int) s.size = (b : Int) := by unfold mn; rw [if_neg (by omega)]
  rw [m1, m2]
  by_cases c : ((a + 1 : Nat) : Int) > (b : Int)
  · rw [if_pos c]
    apply ba_ext
    rw [bytes_extract, bytes_empty, List.drop_of_length_le (by rw [List.length_take]; omega)]
  · rw [if_neg c]
    congr 1
    omega
theorem size_bytes {s : ByteArray} : s.size = (bytes s).length := (bytes_length s).symm
theorem TextCuts (a0 : ByteArray) (a1 : Int) (w0 : a0.size ≤ 140737488351232) (w1 : (Lit.int .u16 a1).wf = true) : minstrellaw15_TextCuts.f a0 a1 = some true := by
  have h1 : 0 ≤ a1 ∧ a1 ≤ 65535 := by simpa [Lit.wf, IntKind.min, IntKind.max, IntKind.signed, IntKind.bits] using w1
  unfold minstrellaw15_TextCuts.f
  by_cases c : (a0.size : Int) > 16384
  · rw [if_pos c, lives_true]
    rfl
  · obtain ⟨A, rfl⟩ := Int.eq_ofNat_of_zero_le h1.1
    have hw : wrap64 ((a0.size : Int) + 1) = ((a0.size + 1 : Nat) : Int) := wrap_succ _ (by omega)
    rw [if_neg c, hw, if_neg (by omega), w64 (x := ((A : Nat) : Int)) (by omega) (by omega), show Int.tmod ((A : Nat) : Int) ((a0.size + 1 : Nat) : Int) = ((A % (a0.size + 1) : Nat) : Int) from rfl]
    have hi : A % (a0.size + 1) < a0.size + 1 := Nat.mod_lt _ (by omega)
    clear hw
    generalize A % (a0.size + 1) = i at *
    rw [wrap_succ i (by omega), Sub_eq a0 1 i (by omega) (by omega) (by omega)]
    simp only [Option.bind_some]
    rw [Sub_eq a0 ((i + 1 : Nat) : Int) a0.size (by omega) (by omega) (by omega)]
    simp only [Option.bind_some]
    have e1 : sub a0 1 (i : Int) = a0.extract 0 i := sub_at a0 0 i (Nat.zero_le _) (by omega)
    rw [e1, sub_at a0 i a0.size (by omega) (Nat.le_refl _)]
    have s1 : (a0.extract 0 i).size = i := by rw [size_bytes, bytes_extract, List.drop_zero, List.length_take, bytes_length]; omega
    have s2 : (a0.extract i a0.size).size = a0.size - i := by rw [size_bytes, bytes_extract, List.length_drop, List.length_take, bytes_length]; omega
    have e2 : a0.extract 0 i ++ a0.extract i a0.size = a0 := by
      apply ba_ext
      rw [bytes_append, bytes_extract, bytes_extract, List.drop_zero, List.take_of_length_le (l := bytes a0) (i := a0.size) (by rw [bytes_length]; omega), List.take_append_drop]
    unfold text_Join.f
    rw [s1, s2, e2, if_neg (by omega), w64 (x := 16384 - (i : Int)) (by omega) (by omega), if_neg (by omega), if_pos (by omega)]
    simp only [Option.bind_some]
    rw [if_pos trivial, if_pos trivial, lives_true]
    rfl
/-- What Find answers from a place on. -/
def findR (L T : List UInt8) (f : Int) : Int × Bool := if Lib.index L T < 0 then (0, false) else (f + Lib.index L T, true)
theorem occ_size {L T : List UInt8} (h : ¬ Lib.index L T < 0) (hT : T ≠ []) : ∃ i : Nat, Lib.index L T = i ∧ i + T.length ≤ L.length ∧ (L.drop i).take T.length = T := by
  have hno : ¬ ∀ j, j ≤ L.length → Lib.occAt L T j = false := fun e => h (by rw [Lib.index_none e]; decide)
  obtain ⟨j, hj⟩ := Classical.not_forall.1 hno
  obtain ⟨hj1, hj2⟩ := Classical.not_imp.1 hj
  have ho : Lib.occAt L T j = true := by simpa using hj2
  have hmin : ∃ i, Lib.occAt L T i = true ∧ i ≤ j ∧ ∀ k, k < i → Lib.occAt L T k = false := by
    clear hno hj hj2 hj1 h
    induction j using Nat.strongRecOn with
    | _ j ih =>
      by_cases c : ∀ k, k < j → Lib.occAt L T k = false
      · exact ⟨j, ho, Nat.le_refl _, c⟩
      · obtain ⟨k, hk⟩ := Classical.not_forall.1 c
        obtain ⟨hk1, hk2⟩ := Classical.not_imp.1 hk
        obtain ⟨i, a, b, d⟩ := ih k hk1 (by simpa using hk2)
        exact ⟨i, a, by omega, d⟩
  obtain ⟨i, h1, h2, h3⟩ := hmin
  have hr := (Lib.occAt_room h1).resolve_right hT
  refine ⟨i, Lib.index_first (by omega) h1 h3, hr, ?_⟩
  rw [Lib.occAt_iff_take L T i hr] at h1
  simpa using h1
theorem occ_at (L T : List UInt8) (h : ¬ Lib.index L T < 0) : ∃ i : Nat, Lib.index L T = i ∧ i + T.length ≤ L.length ∧ (L.drop i).take T.length = T := by
  by_cases hT : T = []
  · subst hT
    exact ⟨0, Lib.index_empty L, by simp, by simp⟩
  · exact occ_size h hT
theorem Find_eq (s t : ByteArray) (from_ : Int) (hs : s.size ≤ 3000) (hf : -9223372036854775808 ≤ from_ ∧ from_ ≤ 9223372036854775807) :
    text_Find.f s t from_ = some (if mx (pl from_ s.size) 1 > s.size + 1 then (0, false) else findR ((bytes s).drop (mx (pl from_ s.size) 1 - 1).toNat) (bytes t) (mx (pl from_ s.size) 1)) := by
  unfold text_Find.f
  rw [place_eq from_ s.size hf (by omega) (by omega)]
  simp only [Option.bind_some]
  have p1 := pl_nonneg from_ s.size
  have p3 := pl_le from_ s.size hf.2 (by omega)
  generalize pl from_ s.size = a at *
  have m1 : 1 ≤ mx a 1 ∧ mx a 1 ≤ 9223372036854775807 := by unfold mx; split <;> omega
  generalize mx a 1 = f at *
  rw [wrap_succ _ (by omega)]
  by_cases c : f > s.size + 1
  · rw [if_pos (by omega), if_pos c]
  · rw [if_neg (by omega), if_neg c, w64 (x := f - 1) (by omega) (by omega), if_pos (by omega), if_pos (by omega)]
    have e : bytes (s.extract (f - 1).toNat s.size) = (bytes s).drop (f - 1).toNat := by
      rw [bytes_extract, List.take_of_length_le (by rw [bytes_length]; omega)]
    have hz : (s.extract (f - 1).toNat s.size).size < 4294967281 := by rw [size_bytes, e, List.length_drop, bytes_length]; omega
    unfold strings_Index.f
    rw [if_pos hz]
    simp only [Option.bind_some]
    rw [show (s.extract (f - 1).toNat s.size).data.toList = (bytes s).drop (f - 1).toNat from e]
    unfold findR
    by_cases d : Lib.index ((bytes s).drop (f - 1).toNat) t.data.toList < 0
    · rw [if_pos d, if_pos d]
    · rw [if_neg d, if_neg d]
      obtain ⟨i, hi, hr, _⟩ := occ_at _ _ d
      rw [hi]
      simp only [List.length_drop, bytes_length] at hr
      rw [w64 (by omega) (by omega)]
theorem wrap_sum (k m : Nat) (h : k + m < 4611686018427387904) : wrap64 ((k : Int) + (m : Int)) = ((k + m : Nat) : Int) := by unfold wrap64; omega
theorem wrap_room (n m : Nat) (h : n ≤ 3000) (hm : m ≤ 140737488351232) : wrap64 (wrap64 ((n : Int) + 1) - (m : Int)) = (n : Int) + 1 - m := by unfold wrap64; omega
theorem refFind_step (s t : ByteArray) (hs : s.size ≤ 3000) (ht : t.size ≤ 140737488351232) (a i : Nat) (ha : a + i ≤ s.size) (hno : Lib.NoOcc ((bytes s).drop a) (bytes t) i) (q : Nat) (r : Option (Int × Bool))
    (hr : a + i + 1 ≤ s.size → Lib.NoOcc ((bytes s).drop a) (bytes t) (i + 1) → minstrelref15_Find.l0 q s t s.size t.size ((a + i + 1 + 1 : Nat) : Int) = some (findR ((bytes s).drop a) (bytes t) ((a + 1 : Nat) : Int))) :
    minstrelref15_Find.l0 (q + 1) s t s.size t.size ((a + i + 1 : Nat) : Int) = some (findR ((bytes s).drop a) (bytes t) ((a + 1 : Nat) : Int)) := by
  have hn := bytes_length s
  have hm := bytes_length t
  have hL : ((bytes s).drop a).length = s.size - a := by rw [List.length_drop, hn]
  simp only [minstrelref15_Find.l0]
  rw [wrap_room _ _ hs ht, wrap_pred (a + i) (by omega), wrap_sum (a + i) t.size (by omega)]
  by_cases c : ((a + i + 1 : Nat) : Int) ≤ (s.size : Int) + 1 - t.size
  · rw [if_pos c, if_pos (by omega), if_pos (by omega), if_pos (by omega), Int.toNat_natCast, Int.toNat_natCast]
    have hroom : i + (bytes t).length ≤ ((bytes s).drop a).length := by omega
    have he : (s.extract (a + i) (a + i + t.size)).toList = (((bytes s).drop a).drop i).take (bytes t).length := by
      rw [toList_bytes, bytes_extract, List.drop_drop, hm, List.drop_take]
      congr 1
      omega
    rw [he, toList_bytes]
    by_cases e : (((bytes s).drop a).drop i).take (bytes t).length = bytes t
    · rw [if_pos e]
      have ho : Lib.occAt ((bytes s).drop a) (bytes t) i = true := by rw [Lib.occAt_iff_take _ _ _ hroom]; simpa using e
      have hx := Lib.index_hit hno (by omega) ho
      unfold findR
      rw [hx, if_neg (by omega)]
      congr 2
      omega
    · rw [if_neg e]
      have ho : Lib.occAt ((bytes s).drop a) (bytes t) i = false := by rw [Lib.occAt_iff_take _ _ _ hroom]; simpa using e
      have hlt : a + i + 1 ≤ s.size := by
        by_cases z : a + i = s.size
        · exfalso
          have hz : (bytes t).length = 0 := by omega
          have ht0 := List.length_eq_zero_iff.1 hz
          rw [ht0] at e
          exact e (by simp)
        · omega
      rw [wrap_succ (a + i + 1) (by omega)]
      exact hr hlt (hno.succ ho)
  · rw [if_neg c]
    have hne : bytes t ≠ [] := fun e => by rw [e] at hm; simp at hm; omega
    have hx := Lib.index_past hne hno (by omega)
    unfold findR
    rw [hx, if_pos (by decide)]
theorem refFind_run (s t : ByteArray) (hs : s.size ≤ 3000) (ht : t.size ≤ 140737488351232) (a : Nat) : ∀ d i : Nat, a + i + d = s.size → Lib.NoOcc ((bytes s).drop a) (bytes t) i → ∀ q,
    minstrelref15_Find.l0 (q + d + 1) s t s.size t.size ((a + i + 1 : Nat) : Int) = some (findR ((bytes s).drop a) (bytes t) ((a + 1 : Nat) : Int)) := by
  intro d
  induction d with
  | zero => exact fun i hi hno q => refFind_step s t hs ht a i (by omega) hno _ none (fun h _ => absurd h (by omega))
  | succ d ih =>
    exact fun i hi hno q => refFind_step s t hs ht a i (by omega) hno _ none (fun h h' => ih (i + 1) (by omega) h' q)
end Go.Proofs.Ythjbdkgbibidkaa.Pure
