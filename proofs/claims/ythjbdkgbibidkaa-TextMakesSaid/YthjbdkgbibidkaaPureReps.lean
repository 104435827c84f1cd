/- The plain law of TextReps. -/
import Derived.Test.YthjbdkgbibidkaaPureText
import Derived.Test.YthjbdkgbibidkaaPs1
namespace Go.Proofs.Ythjbdkgbibidkaa.Pure
open Go.RowKit Go.Proofs.Ythjbdkgbibidkaa.Pr Go.Proofs.Ythjbdkgbibidkaa.Ps Go.Proofs.YthjbdkgbibidkaaW.PrintWords Go.Proofs.YthjbdkgbibidkaaW.PrintLast Go.Proofs.YthjbdkgbibidkaaW.PrintMore
set_option linter.unusedVariables false
set_option linter.unusedSimpArgs false
theorem repeat_get (l : List UInt8) (hl : 0 < l.length) : ∀ c k, k < c * l.length → (Lib.repeatL l c)[k]? = l[k % l.length]? := by
  intro c
  induction c with
  | zero => intro k h; omega
  | succ c ih =>
    intro k h
    show (l ++ Lib.repeatL l c)[k]? = _
    by_cases d : k < l.length
    · rw [List.getElem?_append_left d, Nat.mod_eq_of_lt d]
    · rw [Nat.succ_mul] at h
      rw [List.getElem?_append_right (by omega), ih _ (by omega), ← Nat.mod_eq_sub_mod (Nat.le_of_not_lt d)]
theorem bytes_repeat (s : ByteArray) (n : Nat) : bytes (repeatOf s n) = Lib.repeatL (bytes s) n := by
  unfold repeatOf bytes
  simp
theorem size_repeat (s : ByteArray) (n : Nat) : (repeatOf s n).size = n * s.size := by
  rw [← bytes_length, bytes_repeat, Lib.repeatL_length, bytes_length]
theorem Byte_in (s : ByteArray) (k : Nat) (h : k < s.size) (hs : s.size ≤ 140737488351232) : text_Byte.f s ((k + 1 : Nat) : Int) = some (wrap64 (bt s (k : Int)), true) := by
  unfold text_Byte.f
  rw [place_eq _ s.size (by omega) (by omega) (by omega), Option.bind_some]
  have e : pl ((k + 1 : Nat) : Int) s.size = ((k + 1 : Nat) : Int) := by unfold pl; rw [if_pos (by omega)]
  rw [e, if_neg (by omega), if_neg (by omega), wrap_pred k (by omega), if_pos (by omega), if_pos (by omega)]
theorem Rep_eq (k : Nat) (s : ByteArray) (n : Nat) (hs : s.size ≤ 140737488351232) (hn : n ≤ 255) :
    text_Rep.f (k + 1) s (n : Int) = some (if n = 0 ∨ s.size = 0 then (⟨#[]⟩, 0) else if n * s.size > 16384 then (⟨#[]⟩, 2) else (repeatOf s n, 0)) := by
  unfold text_Rep.f
  by_cases c : n = 0
  · subst c
    rw [if_pos (by decide), if_pos (.inl rfl)]
    rfl
  · rw [if_neg (by omega)]
    by_cases z : s.size = 0
    · have hz : bytes s = [] := List.length_eq_zero_iff.1 (by rw [bytes_length]; exact z)
      rw [if_pos (.inr z), toList_bytes, hz]
      rfl
    · have hz : bytes s ≠ [] := fun e => z (by rw [← bytes_length, e]; rfl)
      rw [if_neg (by omega), toList_bytes, beq_eq_false_iff_ne.2 hz]
      simp only [text_Rep.j0]
      have hd : (16384 : Int) / (n : Int) = ((16384 / n : Nat) : Int) := by rw [Int.natCast_ediv]; rfl
      have hd2 : 16384 / n ≤ 16384 := Nat.div_le_self _ _
      have key : 16384 / n < s.size ↔ 16384 < n * s.size := by rw [Nat.div_lt_iff_lt_mul (by omega), Nat.mul_comm]
      rw [hd]
      clear hd
      generalize 16384 / n = Q at *
      rw [if_neg (by decide), if_neg (by omega), if_neg (by omega), w64 (by omega) (by omega)]
      by_cases d : n * s.size > 16384
      · rw [if_pos d, if_pos (by have := key.2 d; omega)]
      · have hq : ¬ Q < s.size := fun e => d (key.1 e)
        rw [if_neg d, if_neg (by omega)]
        unfold strings_Repeat.f
        rw [Int.toNat_natCast, if_pos ⟨by omega, by omega, by rw [Nat.mul_comm]; omega⟩]
        rfl
theorem TextReps (a0 : ByteArray) (a1 a2 : Int) (w0 : a0.size ≤ 140737488351232) (w1 : (Lit.int .u8 a1).wf = true) (w2 : (Lit.int .u16 a2).wf = true) : ∃ k, minstrellaw15_TextReps.f k a0 a1 a2 = some true := by
  have h1 : 0 ≤ a1 ∧ a1 ≤ 255 := by simpa [Lit.wf, IntKind.min, IntKind.max, IntKind.signed, IntKind.bits] using w1
  have h2 : 0 ≤ a2 ∧ a2 ≤ 65535 := by simpa [Lit.wf, IntKind.min, IntKind.max, IntKind.signed, IntKind.bits] using w2
  obtain ⟨n, rfl⟩ := Int.eq_ofNat_of_zero_le h1.1
  obtain ⟨A, rfl⟩ := Int.eq_ofNat_of_zero_le h2.1
  have hn : n ≤ 255 := by omega
  have hA : A ≤ 65535 := by omega
  clear h1 h2 w1 w2
  refine ⟨1, ?_⟩
  have hmul : n * a0.size ≤ 255 * 140737488351232 := Nat.mul_le_mul hn w0
  have hw : wrap64 ((a0.size : Int) * (n : Int)) = ((n * a0.size : Nat) : Int) := by
    rw [show (a0.size : Int) * (n : Int) = ((n * a0.size : Nat) : Int) by rw [Int.natCast_mul, Int.mul_comm]]
    exact w64 (by omega) (by omega)
  unfold minstrellaw15_TextReps.f
  rw [w64 (x := (n : Int)) (by omega) (by omega), Rep_eq 0 a0 n w0 hn, Option.bind_some, hw, w64 (x := (A : Int)) (by omega) (by omega)]
  by_cases c : n = 0 ∨ a0.size = 0
  · rw [if_pos c]
    have hz : n * a0.size = 0 := by rcases c with c | c <;> rw [c] <;> simp
    rw [if_pos rfl, hz]
    show (if ((0 : Nat) : Int) = ((0 : Nat) : Int) then (if ((0 : Nat) : Int) = 0 then _ else _) else _) = _
    rw [if_pos rfl, if_pos (show ((0 : Nat) : Int) = 0 from rfl), lives_true]
    rfl
  · rw [if_neg c]
    by_cases d : n * a0.size > 16384
    · rw [if_pos d, if_neg (show ¬ ((2 : Int) = 0) by decide), if_pos rfl, if_pos (by omega), if_pos (show (⟨#[]⟩ : ByteArray).toList = [] by rw [toList_bytes]), lives_true]
      rfl
    · rw [if_neg d, if_pos rfl]
      have hs := size_repeat a0 n
      have hpos : 0 < n * a0.size := Nat.mul_pos (by omega) (by omega)
      show (if ((repeatOf a0 n).size : Int) = _ then _ else _) = _
      rw [hs, if_pos rfl, if_neg (by omega), show Int.tmod (A : Int) ((n * a0.size : Nat) : Int) = ((A % (n * a0.size) : Nat) : Int) from rfl]
      have hm : A % (n * a0.size) < n * a0.size := Nat.mod_lt _ hpos
      generalize A % (n * a0.size) = i at hm ⊢
      have hi : i < 16384 := by omega
      have hj : i % a0.size < a0.size := Nat.mod_lt _ (by omega)
      rw [wrap_succ i (by omega)]
      show ((text_Byte.f (repeatOf a0 n) _).bind _) = _
      rw [Byte_in (repeatOf a0 n) i (by rw [hs]; exact hm) (by rw [hs]; omega), Option.bind_some, if_neg (show ¬ (a0.size : Int) = 0 by omega), wrap_pred i (by omega), show Int.tmod (i : Int) (a0.size : Int) = ((i % a0.size : Nat) : Int) from rfl, wrap_succ (i % a0.size) (by omega), Byte_in a0 (i % a0.size) hj w0, Option.bind_some]
      have hb : bt (repeatOf a0 n) (i : Int) = bt a0 ((i % a0.size : Nat) : Int) := by
        obtain ⟨b, q1, q2⟩ := bt_bytes (repeatOf a0 n) i (by rw [hs]; exact hm)
        obtain ⟨b', q3, q4⟩ := bt_bytes a0 (i % a0.size) hj
        rw [bytes_repeat, repeat_get _ (by rw [bytes_length]; omega) n i (by rw [bytes_length]; exact hm), bytes_length] at q1
        rw [q3] at q1
        obtain rfl := Option.some.inj q1
        rw [q2, q4]
      rw [hb, if_pos rfl, if_pos rfl, if_pos rfl, lives_true]
      rfl
end Go.Proofs.Ythjbdkgbibidkaa.Pure
