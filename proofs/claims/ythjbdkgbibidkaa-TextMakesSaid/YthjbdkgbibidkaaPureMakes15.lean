/- The plain law of TextMakes. -/
import Derived.Test.YthjbdkgbibidkaaPureOrders
import Derived.Test.YthjbdkgbibidkaaPureReps
import Derived.Test.YthjbdkgbibidkaaPu2
namespace Go.Proofs.Ythjbdkgbibidkaa.Pure
open Go.RowKit Go.Proofs.Ythjbdkgbibidkaa.Pr Go.Proofs.Ythjbdkgbibidkaa.Ps Go.Proofs.Ythjbdkgbibidkaa.Pu Go.Proofs.YthjbdkgbibidkaaW.PrintWords Go.Proofs.YthjbdkgbibidkaaW.PrintLast Go.Proofs.YthjbdkgbibidkaaW.PrintMore
set_option linter.unusedVariables false
set_option linter.unusedSimpArgs false
theorem Join_both (a b : ByteArray) (ha : a.size ≤ 140737488351232) (hb : b.size ≤ 140737488351232) : ∃ x, text_Join.f a b = some x ∧ minstrelref15_Join.f a b = some x := by
  unfold text_Join.f minstrelref15_Join.f
  rw [w64 (x := (a.size : Int) + b.size) (by omega) (by omega)]
  by_cases c1 : (a.size : Int) > 16384
  · rw [if_pos c1, if_pos (by omega)]
    exact ⟨_, rfl, rfl⟩
  · rw [if_neg c1, w64 (x := 16384 - (a.size : Int)) (by omega) (by omega)]
    by_cases c2 : (b.size : Int) > 16384 - a.size
    · rw [if_pos c2, if_pos (by omega)]
      exact ⟨_, rfl, rfl⟩
    · rw [if_neg c2, if_pos (show a.size + b.size ≤ 9223372036854775807 by omega), if_neg (by omega)]
      exact ⟨_, rfl, rfl⟩
theorem Char_both (n : Int) : ∃ x, text_Char.f n = some x ∧ minstrelref15_Char.f n = some x := by
  unfold text_Char.f minstrelref15_Char.f
  by_cases c1 : n < 0
  · rw [if_pos c1]
    exact ⟨_, rfl, rfl⟩
  · rw [if_neg c1]
    by_cases c2 : n > 255
    · rw [if_pos c2]
      exact ⟨_, rfl, rfl⟩
    · rw [if_neg c2]
      exact ⟨_, rfl, rfl⟩
theorem bt_nums (s : ByteArray) (k : Nat) (h : k < s.size) : (numsB s)[k]? = some (bt s (k : Int)) ∧ 0 ≤ bt s (k : Int) ∧ bt s (k : Int) ≤ 255 := by
  obtain ⟨b, h1, h2⟩ := bt_bytes s k h
  refine ⟨?_, bt_range s _⟩
  rw [bytes_nums]
  unfold nums
  rw [List.getElem?_map, h1, h2]
  rfl
theorem Upper_run (s : ByteArray) (hs : s.size ≤ 140737488351232) : ∀ d i : Nat, i + d = s.size → ∀ q, minstrelref15_Upper.l0 (q + d + 1) s (((numsB s).map up1).take i) (i : Int) = some (strOfNums ((numsB s).map up1)) := by
  intro d
  induction d with
  | zero =>
    intro i hi q
    simp only [minstrelref15_Upper.l0]
    rw [if_neg (by omega), List.take_of_length_le (by rw [List.length_map, numsB_length]; omega)]
  | succ d ih =>
    intro i hi q
    obtain ⟨h1, h2, h3⟩ := bt_nums s i (by omega)
    have hlen : (((numsB s).map up1).take i).length < 140737488355328 := by rw [List.length_take, List.length_map, numsB_length]; omega
    have hstep : ((numsB s).map up1).take (i + 1) = ((numsB s).map up1).take i ++ [up1 (bt s (i : Int))] := by
      rw [List.take_add_one, List.getElem?_map, h1]
      rfl
    have hnext := ih (i + 1) (by omega) q
    rw [hstep] at hnext
    rw [show q + (d + 1) + 1 = (q + d + 1) + 1 by omega]
    simp only [minstrelref15_Upper.l0]
    rw [if_pos (by omega), if_pos (by omega), wrap_succ i (by omega)]
    generalize bt s (i : Int) = x at *
    by_cases c1 : x ≥ 97
    · rw [if_pos c1]
      by_cases c2 : x ≤ 122
      · rw [if_pos c2, if_pos hlen]
        have : (x - 32) % 256 = up1 x := by unfold up1; rw [if_pos ⟨c1, c2⟩]; omega
        rw [this]
        exact hnext
      · have : up1 x = x := by unfold up1; rw [if_neg (by omega)]
        rw [this] at hnext
        rw [if_neg c2, if_pos hlen]
        exact hnext
    · have : up1 x = x := by unfold up1; rw [if_neg (by omega)]
      rw [this] at hnext
      rw [if_neg c1, if_pos hlen]
      exact hnext
theorem Upper_both (s : ByteArray) (hs : s.size ≤ 140737488351232) (q : Nat) : ∃ x, text_Upper.f s = some x ∧ minstrelref15_Upper.f (q + s.size + 1) s = some x := by
  unfold text_Upper.f minstrelref15_Upper.f
  exact ⟨_, if_pos (by omega), Upper_run s hs s.size 0 (by omega) q⟩
theorem wrap_less (j : Nat) (h : j < 4611686018427387904) : wrap64 ((j : Int) - 1) = (j : Int) - 1 := by unfold wrap64; omega
theorem Reverse_run (s : ByteArray) (hs : s.size ≤ 140737488351232) : ∀ j : Nat, j ≤ s.size → ∀ q, minstrelref15_Reverse.l0 (q + j + 1) s (((numsB s).drop j).reverse) ((j : Int) - 1) = some (strOfNums (numsB s).reverse) := by
  intro j
  induction j with
  | zero =>
    intro _ q
    simp only [minstrelref15_Reverse.l0]
    rw [if_neg (by omega), List.drop_zero]
  | succ j ih =>
    intro hj q
    obtain ⟨h1, _, _⟩ := bt_nums s j (by omega)
    have hlen : (((numsB s).drop (j + 1)).reverse).length < 140737488355328 := by rw [List.length_reverse, List.length_drop, numsB_length]; omega
    have hjl : j < (numsB s).length := by rw [numsB_length]; omega
    have hg : (numsB s)[j] = bt s (j : Int) := by
      rw [List.getElem?_eq_getElem hjl] at h1
      exact Option.some.inj h1
    have hstep : ((numsB s).drop (j + 1)).reverse ++ [bt s (j : Int)] = ((numsB s).drop j).reverse := by
      rw [List.drop_eq_getElem_cons hjl, List.reverse_cons, hg]
    have e : ((j + 1 : Nat) : Int) - 1 = (j : Int) := by omega
    rw [e, show q + (j + 1) + 1 = (q + j + 1) + 1 by omega]
    simp only [minstrelref15_Reverse.l0]
    rw [if_pos (by omega), if_pos (by omega), if_pos (by omega), if_pos hlen, hstep, wrap_less j (by omega)]
    exact ih (by omega) q
theorem Reverse_both (s : ByteArray) (hs : s.size ≤ 140737488351232) (q : Nat) : ∃ x, text_Reverse.f s = some x ∧ minstrelref15_Reverse.f (q + s.size + 1) s = some x := by
  unfold text_Reverse.f minstrelref15_Reverse.f
  refine ⟨_, if_pos (by omega), ?_⟩
  rw [wrap_less _ (by omega)]
  have := Reverse_run s hs s.size (Nat.le_refl _) q
  rw [List.drop_of_length_le (by rw [numsB_length]; exact Nat.le_refl _)] at this
  exact this
theorem Less_run (x y : ByteArray) (hx : x.size ≤ 140737488351232) : ∀ d i : Nat, i + d = x.size → i ≤ y.size → ∀ q, minstrelref15_Less.l0 (q + 2 * d + 2) x y (i : Int) = some (Op.bytesLess ((bytes x).drop i) ((bytes y).drop i)) := by
  intro d
  induction d with
  | zero =>
    intro i hi hy q
    simp only [minstrelref15_Less.l0]
    rw [if_neg (by omega)]
    simp only [minstrelref15_Less.j1]
    rw [if_neg (by decide), List.drop_of_length_le (l := bytes x) (by rw [bytes_length]; omega)]
    by_cases c : i < y.size
    · obtain ⟨b, hb, _⟩ := bt_bytes y i c
      rw [List.drop_eq_getElem_cons (l := bytes y) (by rw [bytes_length]; exact c), decide_eq_true (by omega)]
      rfl
    · rw [List.drop_of_length_le (l := bytes y) (by rw [bytes_length]; omega), decide_eq_false (by omega)]
      rfl
  | succ d ih =>
    intro i hi hy q
    have hix : i < (bytes x).length := by rw [bytes_length]; omega
    rw [show q + 2 * (d + 1) + 2 = (q + 2 * d + 2) + 1 + 1 by omega]
    simp only [minstrelref15_Less.l0]
    rw [if_pos (by omega)]
    simp only [minstrelref15_Less.j1]
    by_cases c : i < y.size
    · have hiy : i < (bytes y).length := by rw [bytes_length]; omega
      obtain ⟨a, ha, ha2⟩ := bt_bytes x i (by omega)
      obtain ⟨b, hb, hb2⟩ := bt_bytes y i c
      rw [List.getElem?_eq_getElem hix] at ha
      rw [List.getElem?_eq_getElem hiy] at hb
      rw [decide_eq_true (by omega), if_pos rfl, if_pos (by omega), if_pos (by omega), if_pos (by omega), ha2, hb2, wrap_succ i (by omega), List.drop_eq_getElem_cons hix, List.drop_eq_getElem_cons hiy, Option.some.inj ha, Option.some.inj hb]
      by_cases e : a = b
      · subst e
        rw [if_pos rfl, ih (i + 1) (by omega) (by omega) q]
        congr 1
        simp [Op.bytesLess]
      · have hne : ¬ (a.toNat : Int) = b.toNat := fun h => e (u8_eq (by omega))
        rw [if_neg hne]
        congr 1
        simp [Op.bytesLess, e, UInt8.lt_iff_toNat_lt]
    · rw [decide_eq_false (by omega), if_neg (by decide), decide_eq_false (by omega), List.drop_of_length_le (l := bytes y) (by rw [bytes_length]; omega), less_nil]
theorem Less_both (x y : ByteArray) (hx : x.size ≤ 140737488351232) (q : Nat) : ∃ b, Go.Proofs.Ythjbdkgbibidkaa.Pu.text_Less.f x y = some b ∧ minstrelref15_Less.f (q + 2 * x.size + 2) x y = some b := by
  unfold Go.Proofs.Ythjbdkgbibidkaa.Pu.text_Less.f minstrelref15_Less.f
  refine ⟨_, rfl, ?_⟩
  have := Less_run x y hx x.size 0 (by omega) (Nat.zero_le _) q
  rw [toList_bytes, toList_bytes]
  exact this
theorem bytesOf_nums (s : ByteArray) : bytesOf s = nums (bytes s) := rfl
theorem nums_append (a b : List UInt8) : nums a ++ nums b = nums (a ++ b) := by unfold nums; rw [List.map_append]
theorem nums_length (a : List UInt8) : (nums a).length = a.length := by unfold nums; rw [List.length_map]
def repR (s : ByteArray) (N : Nat) : ByteArray × Int := if N * s.size > 16384 then (⟨#[]⟩, 2) else (strOfNums (nums (Lib.repeatL (bytes s) N)), 0)
theorem Rep_run (s : ByteArray) (N : Nat) (hz : 0 < s.size) (hs : s.size ≤ 140737488351232) (hN : N ≤ 9223372036854775807) : ∀ d i : Nat, i * s.size ≤ 16384 → i ≤ N → 16384 - i * s.size < d → ∀ q, minstrelref15_Rep.l0 (q + 2 * d) s (N : Int) (nums (Lib.repeatL (bytes s) i)) (i : Int) = some (repR s N) := by
  intro d
  induction d with
  | zero => intro i _ _ h; omega
  | succ d ih =>
    intro i hi hiN hd q
    have hl : (nums (Lib.repeatL (bytes s) i)).length = i * s.size := by rw [nums_length, Lib.repeatL_length, bytes_length]
    have hi2 : i ≤ 16384 := Nat.le_trans (Nat.le_mul_of_pos_right i hz) hi
    have hsucc : (i + 1) * s.size = i * s.size + s.size := Nat.succ_mul i s.size
    rw [show q + 2 * (d + 1) = (q + 2 * d) + 1 + 1 by omega]
    simp only [minstrelref15_Rep.l0]
    by_cases c : i < N
    · rw [if_pos (by omega)]
      simp only [minstrelref15_Rep.j1]
      rw [decide_eq_true (show (s.size : Int) > 0 by omega), if_pos rfl, hl]
      have hmono : (i + 1) * s.size ≤ N * s.size := Nat.mul_le_mul_right _ c
      generalize i * s.size = P at *
      rw [w64 (x := (P : Int) + s.size) (by omega) (by omega)]
      by_cases e : P + s.size > 16384
      · rw [if_pos (by omega)]
        unfold repR
        rw [if_pos (by omega)]
      · rw [if_neg (by omega), if_pos (by omega), bytesOf_nums, nums_append, wrap_succ i (by omega)]
        have hr : Lib.repeatL (bytes s) i ++ bytes s = Lib.repeatL (bytes s) (i + 1) := by rw [Lib.repeatL_add, Lib.repeatL_one]
        rw [hr]
        exact ih (i + 1) (by omega) (by omega) (by omega) q
    · obtain rfl : i = N := by omega
      rw [if_neg (by omega)]
      simp only [minstrelref15_Rep.j1]
      rw [if_neg (by decide)]
      unfold repR
      rw [if_neg (by omega)]
theorem repeat_str (s : ByteArray) (N : Nat) : repeatOf s N = strOfNums (nums (Lib.repeatL (bytes s) N)) := by
  apply ba_ext
  rw [bytes_repeat, str_nums]
theorem Rep_both (s : ByteArray) (n : Int) (hs : s.size ≤ 140737488351232) (hn : -9223372036854775808 ≤ n ∧ n ≤ 9223372036854775807) (q : Nat) : ∃ x, text_Rep.f (q + 2 * 16385) s n = some x ∧ minstrelref15_Rep.f (q + 2 * 16385) s n = some x := by
  have hem : s.size = 0 → bytes s = [] := fun h => List.length_eq_zero_iff.1 (by rw [bytes_length]; exact h)
  have hfar : ∀ (b : Bool) (x7 : Int), ((b = false ∧ x7 < n ∧ s.size = 0) ∨ ¬ x7 < n) → minstrelref15_Rep.l0 (q + 2 * 16385) s n [] x7 = some ((⟨#[]⟩ : ByteArray), 0) := by
    intro b x7 h
    rw [show q + 2 * 16385 = (q + 32768) + 1 + 1 by omega]
    simp only [minstrelref15_Rep.l0]
    by_cases c : x7 < n
    · have hz : s.size = 0 := by rcases h with h | h; exact h.2.2; exact absurd c h
      rw [if_pos c]
      simp only [minstrelref15_Rep.j1]
      rw [decide_eq_false (by omega), if_neg (by decide)]
      rfl
    · rw [if_neg c]
      simp only [minstrelref15_Rep.j1]
      rw [if_neg (by decide)]
      rfl
  unfold minstrelref15_Rep.f
  by_cases c0 : n < 1
  · refine ⟨((⟨#[]⟩ : ByteArray), 0), ?_, hfar false 0 (.inr (by omega))⟩
    unfold text_Rep.f
    rw [if_pos c0, show q + 2 * 16385 = (q + 32769) + 1 by omega]
    rfl
  · by_cases z : s.size = 0
    · refine ⟨((⟨#[]⟩ : ByteArray), 0), ?_, hfar false 0 (.inl ⟨rfl, by omega, z⟩)⟩
      unfold text_Rep.f
      rw [if_neg c0, toList_bytes, hem z, show q + 2 * 16385 = (q + 32769) + 1 by omega]
      rfl
    · obtain ⟨N, rfl⟩ := Int.eq_ofNat_of_zero_le (show 0 ≤ n by omega)
      have hrun := Rep_run s N (by omega) hs (by omega) 16385 0 (by omega) (Nat.zero_le _) (by omega) q
      refine ⟨repR s N, ?_, hrun⟩
      have hz : bytes s ≠ [] := fun e => z (by rw [← bytes_length, e]; rfl)
      unfold text_Rep.f
      rw [if_neg c0, toList_bytes, beq_eq_false_iff_ne.2 hz, show q + 2 * 16385 = (q + 32769) + 1 by omega]
      simp only [text_Rep.j0]
      rw [if_neg (by decide)]
      unfold repR
      by_cases c1 : (N : Int) > 16384
      · have hbig : N * s.size > 16384 := by
          have : N * 1 ≤ N * s.size := Nat.mul_le_mul_left N (by omega)
          omega
        rw [if_pos c1, if_pos hbig]
      · have hd : (16384 : Int) / (N : Int) = ((16384 / N : Nat) : Int) := by rw [Int.natCast_ediv]; rfl
        have hd2 : 16384 / N ≤ 16384 := Nat.div_le_self _ _
        have key : 16384 / N < s.size ↔ 16384 < N * s.size := by rw [Nat.div_lt_iff_lt_mul (by omega), Nat.mul_comm]
        rw [hd]
        clear hd
        generalize 16384 / N = Q at *
        rw [if_neg c1, if_neg (by omega), w64 (by omega) (by omega)]
        by_cases d : N * s.size > 16384
        · rw [if_pos d, if_pos (by have := key.2 d; omega)]
        · have hq : ¬ Q < s.size := fun e => d (key.1 e)
          rw [if_neg d, if_neg (by omega), ← repeat_str]
          unfold strings_Repeat.f
          rw [Int.toNat_natCast, if_pos ⟨by omega, by omega, by rw [Nat.mul_comm]; omega⟩]
          rfl
theorem TextMakes (a0 a1 : ByteArray) (a2 : Int) (w0 : a0.size ≤ 140737488351232) (w1 : a1.size ≤ 140737488351232) (w2 : (Lit.int .i64 a2).wf = true) : ∃ k, minstrellaw15_TextMakes.f k a0 a1 a2 = some true := by
  have h2 := bounds_i64' w2
  obtain ⟨⟨x1, x2⟩, j1, j2⟩ := Join_both a0 a1 w0 w1
  obtain ⟨⟨y1, y2⟩, k1, k2⟩ := Char_both a2
  obtain ⟨u, u1, u2⟩ := Upper_both a0 w0 (2 * a0.size + 2 + 2 * 16385 + 1 - a0.size - 1)
  obtain ⟨v, v1, v2⟩ := Reverse_both a0 w0 (2 * a0.size + 2 + 2 * 16385 + 1 - a0.size - 1)
  obtain ⟨b, b1, b2⟩ := Less_both a0 a1 w0 (2 * 16385 + 1)
  obtain ⟨⟨r1, r2⟩, e1, e2⟩ := Rep_both a0 a2 w0 h2 (2 * a0.size + 2)
  rw [show 2 * a0.size + 2 + 2 * 16385 + 1 - a0.size - 1 + a0.size + 1 = 2 * a0.size + 2 + 2 * 16385 + 1 by omega] at u2 v2
  rw [show 2 * 16385 + 1 + 2 * a0.size + 2 = 2 * a0.size + 2 + 2 * 16385 + 1 by omega] at b2
  generalize 2 * a0.size + 2 + 2 * 16385 = K at e1 e2 u2 v2 b2
  refine ⟨K + 1, ?_⟩
  unfold minstrellaw15_TextMakes.f
  rw [j1, Option.bind_some, j2, Option.bind_some, k1, Option.bind_some, k2, Option.bind_some, if_pos rfl, if_pos rfl, if_pos rfl, if_pos rfl, u1, Option.bind_some, u2, Option.bind_some, if_pos rfl, v1, Option.bind_some, v2, Option.bind_some, if_pos rfl, b1, Option.bind_some, b2, Option.bind_some, bne_self_eq_false]
  simp only [minstrellaw15_TextMakes.j0]
  rw [if_neg (by decide), e1, Option.bind_some, e2, Option.bind_some, if_pos rfl, if_pos rfl, lives_true]
  rfl
end Go.Proofs.Ythjbdkgbibidkaa.Pure
