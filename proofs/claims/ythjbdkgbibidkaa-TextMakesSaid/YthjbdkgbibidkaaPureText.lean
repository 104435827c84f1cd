/- The plain laws of layer 15 (texts): TextParts, TextFinds, TextCuts. -/
import Derived.Test.YthjbdkgbibidkaaPr2
import Derived.Lib.IndexLaws
namespace Go.Proofs.Ythjbdkgbibidkaa.Pure
open Go.RowKit Go.Proofs.Ythjbdkgbibidkaa.Pr Go.Proofs.YthjbdkgbibidkaaW.PrintWords Go.Proofs.YthjbdkgbibidkaaW.PrintLast Go.Proofs.YthjbdkgbibidkaaW.PrintMore
set_option linter.unusedVariables false
set_option linter.unusedSimpArgs false
abbrev bytes (s : ByteArray) : List UInt8 := s.data.toList
theorem bytes_length (s : ByteArray) : (bytes s).length = s.size := Array.length_toList
theorem ba_ext {a b : ByteArray} (h : bytes a = bytes b) : a = b := by
  cases a; cases b
  congr 1
  exact Array.toList_inj.1 h
theorem toList_bytes (s : ByteArray) : s.toList = bytes s := Go.ByteArray.toList_eq s
theorem bytes_extract (s : ByteArray) (a b : Nat) : bytes (s.extract a b) = ((bytes s).take b).drop a := by
  unfold bytes
  rw [ByteArray.data_extract, Array.toList_extract, List.extract_eq_take_drop, List.drop_take]
theorem bytes_append (a b : ByteArray) : bytes (a ++ b) = bytes a ++ bytes b := by
  unfold bytes
  rw [ByteArray.data_append, Array.toList_append]
theorem bytes_empty : bytes (⟨#[]⟩ : ByteArray) = [] := rfl
theorem w64 {x : Int} (h0 : -9223372036854775808 ≤ x) (h1 : x ≤ 9223372036854775807) : wrap64 x = x := by unfold wrap64; omega
def pl (i n : Int) : Int := if i ≥ 0 then i else if i < -n then 0 else n + i + 1
theorem pl_nonneg (i n : Int) : 0 ≤ pl i n := by unfold pl; split <;> (try split) <;> omega
theorem pl_le (i n : Int) (h : i ≤ 9223372036854775807) (hn : n ≤ 140737488351232) : pl i n ≤ 9223372036854775807 := by unfold pl; split <;> (try split) <;> omega
theorem place_eq (i n : Int) (hi : -9223372036854775808 ≤ i ∧ i ≤ 9223372036854775807) (h0 : 0 ≤ n) (hn : n ≤ 140737488351232) : text_place.f i n = some (pl i n) := by
  unfold text_place.f pl
  by_cases c : i ≥ 0
  · rw [if_pos c, if_pos c]
  · rw [if_neg c, if_neg c, w64 (x := -n) (by omega) (by omega)]
    by_cases d : i < -n
    · rw [if_pos d, if_pos d]
    · rw [if_neg d, if_neg d, w64 (x := n + i) (by omega) (by omega), w64 (by omega) (by omega)]
theorem At_eq (k : Nat) (i n low : Int) (hi : -9223372036854775808 ≤ i ∧ i ≤ 9223372036854775807) (h0 : 0 ≤ n) (hn : n ≤ 140737488351232) (hl : low = 0 ∨ low = 1) : minstrelref15_At.f (k + 1) i n low = some (if pl i n < low then low else pl i n) := by
  unfold minstrelref15_At.f pl
  by_cases c : i ≥ 0
  · rw [if_neg (by omega), if_pos c]
    simp only [minstrelref15_At.j0]
    rw [if_neg (by decide)]
    split <;> rfl
  · rw [if_pos (by omega), if_neg c, w64 (x := -n) (by omega) (by omega)]
    by_cases d : i < -n
    · rw [if_pos d, decide_eq_false (by omega)]
      simp only [minstrelref15_At.j0]
      rw [if_neg (by decide)]
      rcases hl with rfl | rfl
      · rw [if_pos (by omega), if_neg (by omega)]
      · rw [if_pos (by omega), if_pos (by omega)]
    · rw [if_neg d, decide_eq_true (by omega)]
      simp only [minstrelref15_At.j0]
      rw [if_pos trivial, w64 (x := n + 1) (by omega) (by omega), w64 (by omega) (by omega), show n + 1 + i = n + i + 1 by omega]
      split <;> rfl
theorem lives_true : minstrellaw15_lives.f = some true := by kernel_rfl
/-- The part of a text. -/
def sub (s : ByteArray) (i j : Int) : ByteArray := if mx (pl i s.size) 1 > mn (pl j s.size) s.size then ⟨#[]⟩ else s.extract (mx (pl i s.size) 1 - 1).toNat (mn (pl j s.size) s.size).toNat
theorem Sub_eq (s : ByteArray) (i j : Int) (hs : s.size ≤ 140737488351232) (hi : -9223372036854775808 ≤ i ∧ i ≤ 9223372036854775807) (hj : -9223372036854775808 ≤ j ∧ j ≤ 9223372036854775807) : text_Sub.f s i j = some (sub s i j) := by
  unfold text_Sub.f sub
  rw [place_eq i s.size hi (by omega) (by omega)]
  simp only [Option.bind_some]
  rw [place_eq j s.size hj (by omega) (by omega)]
  simp only [Option.bind_some]
  have p1 := pl_nonneg i s.size
  have p2 := pl_nonneg j s.size
  have p3 := pl_le i s.size hi.2 (by omega)
  have p4 := pl_le j s.size hj.2 (by omega)
  generalize pl i s.size = a at *
  generalize pl j s.size = b at *
  have m1 : 1 ≤ mx a 1 ∧ mx a 1 ≤ 9223372036854775807 := by unfold mx; split <;> omega
  have m2 : mn b s.size ≤ s.size := by unfold mn; split <;> omega
  generalize mx a 1 = f at *
  generalize mn b s.size = t at *
  by_cases c : f > t
  · rw [if_pos c, if_pos c]
  · rw [if_neg c, if_neg c, w64 (x := f - 1) (by omega) (by omega), if_pos (by omega), if_pos (by omega), if_pos (by omega)]
theorem wrap_pred (k : Nat) (h : k < 4611686018427387904) : wrap64 (((k + 1 : Nat) : Int) - 1) = (k : Int) := by unfold wrap64; omega
theorem wrap_succ (k : Nat) (h : k < 4611686018427387904) : wrap64 ((k : Int) + 1) = ((k + 1 : Nat) : Int) := by unfold wrap64; omega
def nums (l : List UInt8) : List Int := l.map fun b => (b.toNat : Int)
theorem str_nums (l : List UInt8) : bytes (strOfNums (nums l)) = l := by
  unfold bytes nums
  rw [strOfNums_data, List.map_map]
  conv => rhs; rw [← List.map_id l]
  apply List.map_congr_left
  intro b _
  simp
theorem bt_bytes (s : ByteArray) (k : Nat) (h : k < s.size) : ∃ b, (bytes s)[k]? = some b ∧ bt s (k : Int) = (b.toNat : Int) := by
  refine ⟨s[k], ?_, ?_⟩
  · unfold bytes
    rw [List.getElem?_eq_getElem (by rw [bytes_length]; exact h)]
    rfl
  · unfold bt
    rw [Int.toNat_natCast, dif_pos h]
theorem nums_snoc (l : List UInt8) (b : UInt8) : nums l ++ [(b.toNat : Int)] = nums (l ++ [b]) := by simp [nums]
theorem take_step {l : List UInt8} {k a : Nat} {b : UInt8} (h : l[k]? = some b) (ha : a ≤ k) : (l.take k).drop a ++ [b] = (l.take (k + 1)).drop a := by
  have hk : k < l.length := (List.getElem?_eq_some_iff.1 h).1
  rw [List.take_add_one, h, List.drop_append_of_le_length (by rw [List.length_take]; omega)]
  rfl
theorem refSub_run (s : ByteArray) (hs : s.size ≤ 140737488351232) (t : Int) (ht : t ≤ 9223372036854775807) (a : Nat) : ∀ d k : Nat, a ≤ k → (k : Int) + d = mn t s.size → ∀ q,
    minstrelref15_Sub.l0 (q + d + 1) s s.size (nums (((bytes s).take k).drop a)) t (k + 1 : Nat) = some (strOfNums (nums (((bytes s).take (k + d)).drop a))) := by
  intro d
  induction d with
  | zero =>
    intro k ha hk q
    simp only [minstrelref15_Sub.l0]
    by_cases c : ((k + 1 : Nat) : Int) ≤ t
    · rw [if_pos c, if_neg (by unfold mn at hk; split at hk <;> omega)]
      rfl
    · rw [if_neg c]
      rfl
  | succ d ih =>
    intro k ha hk q
    have hks : k < s.size := by unfold mn at hk; split at hk <;> omega
    obtain ⟨b, hb, hbt⟩ := bt_bytes s k hks
    have hl := bytes_length s
    have hlen : (nums (((bytes s).take k).drop a)).length < 140737488355328 := by
      unfold nums
      rw [List.length_map, List.length_drop, List.length_take]
      omega
    rw [show q + (d + 1) + 1 = (q + d + 1) + 1 by omega]
    simp only [minstrelref15_Sub.l0]
    rw [if_pos (by unfold mn at hk; split at hk <;> omega), if_pos (by omega), wrap_pred k (by omega), if_pos (by omega), if_pos (by omega), if_pos hlen, hbt, wrap_succ (k + 1) (by omega), nums_snoc, take_step hb ha]
    have := ih (k + 1) (by omega) (by omega) q
    rw [show k + (d + 1) = k + 1 + d by omega]
    exact this
theorem refSub_eq (s : ByteArray) (i j : Int) (hs : s.size ≤ 140737488351232) (hi : -9223372036854775808 ≤ i ∧ i ≤ 9223372036854775807) (hj : -9223372036854775808 ≤ j ∧ j ≤ 9223372036854775807) (q : Nat) : ∃ r, minstrelref15_Sub.f (q + s.size + 1) s i j = some r ∧ r = sub s i j := by
  unfold minstrelref15_Sub.f sub
  rw [At_eq _ i s.size 1 hi (by omega) (by omega) (.inr rfl)]
  simp only [Option.bind_some]
  rw [At_eq _ j s.size 0 hj (by omega) (by omega) (.inl rfl)]
  simp only [Option.bind_some]
  have p1 := pl_nonneg i s.size
  have p2 := pl_nonneg j s.size
  have p3 := pl_le i s.size hi.2 (by omega)
  have p4 := pl_le j s.size hj.2 (by omega)
  rw [show (if pl i s.size < 1 then 1 else pl i s.size) = mx (pl i s.size) 1 from rfl, if_neg (show ¬ pl j s.size < 0 by omega)]
  generalize pl i s.size = a at *
  generalize pl j s.size = b at *
  have m1 : 1 ≤ mx a 1 ∧ mx a 1 ≤ 9223372036854775807 := by unfold mx; split <;> omega
  generalize mx a 1 = f at *
  by_cases c : f > mn b s.size
  · refine ⟨_, ?_, rfl⟩
    simp only [minstrelref15_Sub.l0]
    rw [if_pos c]
    by_cases e : f ≤ b
    · rw [if_pos e, if_neg (by unfold mn at c; split at c <;> omega)]
      rfl
    · rw [if_neg e]
      rfl
  · rw [if_neg c]
    obtain ⟨k, hk⟩ : ∃ k : Nat, f = ((k + 1 : Nat) : Int) := ⟨(f - 1).toNat, by omega⟩
    have m2 : mn b s.size ≤ s.size := by unfold mn; split <;> omega
    obtain ⟨d, hd⟩ : ∃ d : Nat, (k : Int) + d = mn b s.size := ⟨(mn b s.size - k).toNat, by omega⟩
    have run := refSub_run s hs b p4 k d k (Nat.le_refl _) hd (q + s.size - d)
    rw [show q + s.size - d + d + 1 = q + s.size + 1 by omega] at run
    have e0 : nums (((bytes s).take k).drop k) = [] := by
      rw [List.drop_of_length_le (by rw [List.length_take]; omega)]
      rfl
    rw [e0] at run
    subst hk
    refine ⟨_, run, ba_ext ?_⟩
    rw [str_nums, bytes_extract]
    congr 2 <;> omega
theorem bounds_i64' {x : Int} (h : (Lit.int .i64 x).wf = true) : -9223372036854775808 ≤ x ∧ x ≤ 9223372036854775807 := by simpa [Lit.wf, IntKind.min, IntKind.max, IntKind.signed, IntKind.bits] using h
theorem TextParts (a0 : ByteArray) (a1 a2 : Int) (w0 : a0.size ≤ 140737488351232) (w1 : (Lit.int .i64 a1).wf = true) (w2 : (Lit.int .i64 a2).wf = true) : ∃ k, minstrellaw15_TextParts.f k a0 a1 a2 = some true := by
  have h1 := bounds_i64' w1
  have h2 := bounds_i64' w2
  refine ⟨0 + a0.size + 1, ?_⟩
  obtain ⟨r, e1, e2⟩ := refSub_eq a0 a1 a2 w0 h1 h2 0
  have p1 := pl_nonneg a1 a0.size
  have hb : ∃ x, text_Byte.f a0 a1 = some x ∧ minstrelref15_Byte.f (0 + a0.size + 1) a0 a1 = some x := by
    unfold text_Byte.f minstrelref15_Byte.f
    rw [place_eq a1 a0.size h1 (by omega) (by omega), At_eq _ a1 a0.size 0 h1 (by omega) (by omega) (.inl rfl), if_neg (by omega)]
    simp only [Option.bind_some]
    generalize pl a1 a0.size = p at *
    by_cases c1 : p < 1
    · rw [if_pos c1]
      exact ⟨_, rfl, rfl⟩
    · rw [if_neg c1]
      by_cases c2 : p > a0.size
      · rw [if_pos c2]
        exact ⟨_, rfl, rfl⟩
      · rw [if_neg c2, w64 (x := p - 1) (by omega) (by omega), if_pos (by omega), if_pos (by omega)]
        exact ⟨_, rfl, rfl⟩
  obtain ⟨x, b1, b2⟩ := hb
  unfold minstrellaw15_TextParts.f
  rw [b1]
  simp only [Option.bind_some]
  rw [b2]
  simp only [Option.bind_some]
  rw [Sub_eq a0 a1 a2 w0 h1 h2]
  simp only [Option.bind_some]
  rw [e1, e2]
  simp only [Option.bind_some]
  rw [if_pos trivial, if_pos trivial, if_pos (by simp), lives_true]
  rfl
end Go.Proofs.Ythjbdkgbibidkaa.Pure
