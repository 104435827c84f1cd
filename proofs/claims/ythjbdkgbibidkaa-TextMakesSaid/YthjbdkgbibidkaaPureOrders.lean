/- The plain law of TextOrders. -/
import Derived.Test.YthjbdkgbibidkaaPureText
import Derived.Test.YthjbdkgbibidkaaPt1
namespace Go.Proofs.Ythjbdkgbibidkaa.Pure
open Go.RowKit Go.Proofs.Ythjbdkgbibidkaa.Pr Go.Proofs.Ythjbdkgbibidkaa.Pt Go.Proofs.YthjbdkgbibidkaaW.PrintWords Go.Proofs.YthjbdkgbibidkaaW.PrintLast Go.Proofs.YthjbdkgbibidkaaW.PrintMore
set_option linter.unusedVariables false
set_option linter.unusedSimpArgs false
theorem less_cons (a b : UInt8) (x y : List UInt8) : Op.bytesLess (a :: x) (b :: y) = true ↔ (a.toNat < b.toNat ∨ a = b ∧ Op.bytesLess x y = true) := by
  simp [Op.bytesLess, UInt8.lt_iff_toNat_lt]
theorem less_nil (l : List UInt8) : Op.bytesLess l [] = false := by cases l <;> rfl
theorem u8_eq {a b : UInt8} (h : a.toNat = b.toNat) : a = b := UInt8.toNat_inj.1 h
theorem less_asymm : ∀ x y : List UInt8, Op.bytesLess x y = true → Op.bytesLess y x = false
  | _, [], h => by rw [less_nil] at h; cases h
  | [], _ :: _, _ => rfl
  | a :: x, b :: y, h => by
    rw [less_cons] at h
    apply Bool.eq_false_iff.2
    intro e
    rw [less_cons] at e
    rcases h with h | ⟨rfl, h⟩
    · rcases e with e | ⟨rfl, e⟩ <;> omega
    · rcases e with e | ⟨_, e⟩
      · omega
      · rw [less_asymm x y h] at e
        cases e
theorem less_total : ∀ x y : List UInt8, Op.bytesLess x y = false → Op.bytesLess y x = false → x = y
  | [], [], _, _ => rfl
  | [], _ :: _, h, _ => by cases h
  | _ :: _, [], _, h => by cases h
  | a :: x, b :: y, h, k => by
    have h1 : ¬ (a.toNat < b.toNat ∨ a = b ∧ Op.bytesLess x y = true) := fun e => by rw [← less_cons, h] at e; cases e
    have h2 : ¬ (b.toNat < a.toNat ∨ b = a ∧ Op.bytesLess y x = true) := fun e => by rw [← less_cons, k] at e; cases e
    obtain rfl : a = b := u8_eq (by omega)
    have e := less_total x y (Bool.eq_false_iff.2 fun e => h1 (.inr ⟨rfl, e⟩)) (Bool.eq_false_iff.2 fun e => h2 (.inr ⟨rfl, e⟩))
    rw [e]
theorem less_trans : ∀ x y z : List UInt8, Op.bytesLess x y = true → Op.bytesLess y z = true → Op.bytesLess x z = true
  | _, _, [], _, h => by rw [less_nil] at h; cases h
  | _, [], _ :: _, h, _ => by rw [less_nil] at h; cases h
  | [], _ :: _, _ :: _, _, _ => rfl
  | a :: x, b :: y, c :: z, h, k => by
    rw [less_cons] at h k ⊢
    rcases h with h | ⟨rfl, h⟩
    · rcases k with k | ⟨rfl, k⟩
      · exact .inl (by omega)
      · exact .inl h
    · rcases k with k | ⟨rfl, k⟩
      · exact .inl k
      · exact .inr ⟨rfl, less_trans x y z h k⟩
theorem less_irrefl (x : List UInt8) : Op.bytesLess x x = false := by
  cases h : Op.bytesLess x x with
  | false => rfl
  | true => have := less_asymm x x h; rw [h] at this; cases this
theorem bytes_nums (s : ByteArray) : numsB s = nums (bytes s) := rfl
theorem rev_bytes (s : ByteArray) : bytes (strOfNums (numsB s).reverse) = (bytes s).reverse := by
  have : (numsB s).reverse = nums (bytes s).reverse := by rw [bytes_nums]; unfold nums; rw [List.map_reverse]
  rw [this, str_nums]
theorem Reverse_eq (s : ByteArray) (h : s.size ≤ 140737488351232) : ∃ r, text_Reverse.f s = some r ∧ text_Reverse.f r = some s := by
  unfold text_Reverse.f
  have hz : (strOfNums (numsB s).reverse).size = s.size := by rw [strOfNums_size, List.length_reverse, numsB_length]
  refine ⟨_, if_pos (by omega), ?_⟩
  rw [if_pos (by rw [hz]; omega)]
  congr 1
  apply ba_ext
  rw [rev_bytes, rev_bytes, List.reverse_reverse]
theorem TextOrders (a0 a1 a2 : ByteArray) (w0 : a0.size ≤ 140737488351232) (w1 : a1.size ≤ 140737488351232) (w2 : a2.size ≤ 140737488351232) : ∃ k, minstrellaw15_TextOrders.f k a0 a1 a2 = some true := by
  refine ⟨1, ?_⟩
  obtain ⟨r, e1, e2⟩ := Reverse_eq a0 w0
  have key : ∀ x, (x = true → Op.bytesLess a0.toList a1.toList = true) → minstrellaw15_TextOrders.j0 1 a0 a1 a2 x false = some true := by
    intro x hx
    simp only [minstrellaw15_TextOrders.j0]
    rw [if_neg (by decide), e1]
    simp only [Option.bind_some, e2, lives_true, if_true]
    unfold text_Less.f
    simp only [Option.bind_some]
    cases x with
    | false => rfl
    | true =>
      rw [if_pos rfl]
      cases h : Op.bytesLess a1.toList a2.toList with
      | false => rfl
      | true =>
        rw [if_pos rfl, if_pos (less_trans _ _ _ (hx rfl) h)]
  unfold minstrellaw15_TextOrders.f text_Less.f
  simp only [Option.bind_some]
  cases h1 : Op.bytesLess a0.toList a1.toList with
  | true =>
    have h2 := less_asymm _ _ h1
    have hne : (a0.toList != a1.toList) = true := by
      rw [bne_iff_ne]
      intro e
      rw [e, less_irrefl] at h1
      cases h1
    rw [h2, if_pos rfl, if_neg (by decide), hne]
    exact key true (fun _ => h1)
  | false =>
    rw [if_neg (by decide)]
    have hb : (Op.bytesLess a1.toList a0.toList != (a0.toList != a1.toList)) = false := by
      cases h2 : Op.bytesLess a1.toList a0.toList with
      | true =>
        have hne : (a0.toList != a1.toList) = true := by
          rw [bne_iff_ne]
          intro e
          rw [e, less_irrefl] at h2
          cases h2
        rw [hne]
        rfl
      | false =>
        rw [less_total _ _ h1 h2]
        simp
    rw [hb]
    exact key false (fun e => by cases e)
end Go.Proofs.Ythjbdkgbibidkaa.Pure
