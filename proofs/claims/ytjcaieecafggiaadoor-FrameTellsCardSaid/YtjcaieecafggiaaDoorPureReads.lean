/- The plain law of FrameReads: any bytes are read as frames as the document says. -/
import Derived.Test.YtjcaieecafggiaaDoorFrameE
import Derived.Test.YtjcaieecafggiaaDoorPs1
namespace Go.Proofs.YtjcaieecafggiaaDoor.Pure
open Go.RowKit Go.Proofs.YtjcaieecafggiaaDoor.Pr Go.Proofs.YtjcaieecafggiaaDoor.Ps Go.Proofs.YtjcaieecafggiaaDoorW.PrintWords Go.Proofs.YtjcaieecafggiaaDoorW.PrintLast Go.Proofs.YtjcaieecafggiaaDoorW.PrintMore Go.Proofs.YtjcaieecafggiaaDoor.Crc
set_option linter.unusedVariables false
set_option linter.unusedSimpArgs false
/-- Four bytes' number, put together by shifts. -/
theorem or4 (a b c d : Nat) (ha : a < 256) (hb : b < 256) (hc : c < 256) (hd : d < 256) : ((a * 16777216 ||| b * 65536) ||| c * 256) ||| d = ((a * 256 + b) * 256 + c) * 256 + d := by
  rw [nat_join 24 (a * 16777216) (b * 65536) (by omega) (by omega), nat_join 16 (a * 16777216 + b * 65536) (c * 256) (by omega) (by omega), nat_join 8 _ d (by omega) (by omega)]
  omega
theorem number_eq (l : List Int) (h : Bytes l) (hl : 4 ≤ l.length) : frame_number.f l = some (num4 l) := by
  have y0 := getD_byte h (show 0 < l.length by omega)
  have y1 := getD_byte h (show 1 < l.length by omega)
  have y2 := getD_byte h (show 2 < l.length by omega)
  have y3 := getD_byte h (show 3 < l.length by omega)
  obtain ⟨a, ha⟩ := Int.eq_ofNat_of_zero_le y0.1
  obtain ⟨b, hb⟩ := Int.eq_ofNat_of_zero_le y1.1
  obtain ⟨c, hc⟩ := Int.eq_ofNat_of_zero_le y2.1
  obtain ⟨d, hd⟩ := Int.eq_ofNat_of_zero_le y3.1
  have r0 : rd l 0 = (a : Int) := ha
  have r1 : rd l 1 = (b : Int) := hb
  have r2 : rd l 2 = (c : Int) := hc
  have r3 : rd l 3 = (d : Int) := hd
  unfold frame_number.f num4
  rw [if_pos (by omega), if_pos (by omega), if_pos (by omega), if_pos (by omega), r0, r1, r2, r3, ha, hb, hc, hd]
  rw [show ((((a : Int) % 4294967296) * 16777216) % 4294967296) = ((a * 16777216 : Nat) : Int) by omega, show ((((b : Int) % 4294967296) * 65536) % 4294967296) = ((b * 65536 : Nat) : Int) by omega, show ((((c : Int) % 4294967296) * 256) % 4294967296) = ((c * 256 : Nat) : Int) by omega, show ((d : Int) % 4294967296) = ((d : Nat) : Int) by omega]
  have h1 : a * 16777216 ||| b * 65536 < 2 ^ 32 := Nat.or_lt_two_pow (by omega) (by omega)
  have h2 : (a * 16777216 ||| b * 65536) ||| c * 256 < 2 ^ 32 := Nat.or_lt_two_pow h1 (by omega)
  rw [u32_or_nat _ _ (by omega) (by omega), u32_or_nat _ _ h1 (by omega), u32_or_nat _ _ h2 (by omega), or4 a b c d (by omega) (by omega) (by omega) (by omega)]
  congr 1
theorem num4_range {l : List Int} (h : Bytes l) (hl : 4 ≤ l.length) : 0 ≤ num4 l ∧ num4 l ≤ 4294967295 := by
  have y0 := getD_byte h (show 0 < l.length by omega)
  have y1 := getD_byte h (show 1 < l.length by omega)
  have y2 := getD_byte h (show 2 < l.length by omega)
  have y3 := getD_byte h (show 3 < l.length by omega)
  unfold num4
  omega
theorem four_num (a b c d : Int) (ha : 0 ≤ a ∧ a ≤ 255) (hb : 0 ≤ b ∧ b ≤ 255) (hc : 0 ≤ c ∧ c ≤ 255) (hd : 0 ≤ d ∧ d ≤ 255) : fourL (((a * 256 + b) * 256 + c) * 256 + d) = [a, b, c, d] := by
  unfold fourL
  simp only [List.cons.injEq, and_true]
  refine ⟨?_, ?_, ?_, ?_⟩ <;> omega
theorem num_four (s : Int) (h0 : 0 ≤ s) (h1 : s < 4294967296) : num4 (fourL s) = s := by
  unfold num4 fourL
  show (((s / 16777216 % 256) * 256 + (s / 65536 % 256)) * 256 + (s / 256 % 256)) * 256 + (s % 256) = s
  omega
theorem take4_four {l : List Int} (h : Bytes l) (hl : 4 ≤ l.length) : l.take 4 = fourL (num4 l) := by
  obtain ⟨a, b, c, d, m, rfl⟩ : ∃ a b c d m, l = a :: b :: c :: d :: m := by
    match l, hl with
    | a :: b :: c :: d :: m, _ => exact ⟨a, b, c, d, m, rfl⟩
  have ha := h a (by simp)
  have hb := h b (by simp)
  have hc := h c (by simp)
  have hd := h d (by simp)
  show [a, b, c, d] = fourL (((a * 256 + b) * 256 + c) * 256 + d)
  exact (four_num a b c d ha hb hc hd).symm
theorem sumL_range (l : List Int) (h : Bytes l) : 0 ≤ sumL l ∧ sumL l < 4294967296 := by
  have := sumN_lt (nat_lt h)
  unfold sumL
  omega
/-- The record's test: its sum is right just where it is the record of its bytes. -/
theorem frame_test (l : List Int) (h : Bytes l) (n : Nat) (hn : num4 l = (n : Int)) (hl : 8 + n ≤ l.length) :
    (sumL (l.take 4 ++ (l.take (8 + n)).drop 8) = num4 (l.drop 4)) ↔ frameL ((l.take (8 + n)).drop 8) = l.take (8 + n) := by
  have hp : (((l.take (8 + n)).drop 8).length : Int) = (n : Int) := by simp; omega
  have e4 : l.take 4 = fourL (n : Int) := by rw [take4_four h (by omega), hn]
  have b4 : Bytes (l.drop 4) := fun x hx => h x (List.mem_of_mem_drop hx)
  have e8 : (l.drop 4).take 4 = fourL (num4 (l.drop 4)) := take4_four b4 (by simp; omega)
  have et : l.take (8 + n) = fourL (n : Int) ++ (fourL (num4 (l.drop 4)) ++ (l.take (8 + n)).drop 8) := by
    have h1 : l.take (8 + n) = (l.take (8 + n)).take 8 ++ (l.take (8 + n)).drop 8 := (List.take_append_drop 8 _).symm
    have h2 : (l.take (8 + n)).take 8 = l.take 4 ++ (l.drop 4).take 4 := by
      rw [List.take_take, Nat.min_eq_left (by omega), show 8 = 4 + 4 from rfl, List.take_add]
    rw [h2, e4, e8, List.append_assoc] at h1
    exact h1
  have bp : Bytes ((l.take (8 + n)).drop 8) := fun x hx => h x (List.mem_of_mem_take (List.mem_of_mem_drop hx))
  have rs := sumL_range (l.take 4 ++ (l.take (8 + n)).drop 8) (bytes_app (fun x hx => h x (List.mem_of_mem_take hx)) bp)
  have rn := num4_range b4 (by simp; omega)
  unfold frameL
  rw [hp]
  constructor
  · intro e
    rw [e4] at e
    rw [e]
    exact et.symm
  · intro e
    have e' := List.append_cancel_left (e.trans et)
    have e'' : fourL (sumL (fourL (n : Int) ++ (l.take (8 + n)).drop 8)) = fourL (num4 (l.drop 4)) := List.append_inj_left e' (by rfl)
    rw [e4] at rs ⊢
    have := congrArg num4 e''
    rwa [num_four _ rs.1 rs.2, num_four _ rn.1 (by omega)] at this
theorem first_eq (l : List Int) (h : Bytes l) : ∃ r, frame_first.f l = some r ∧ minstrelref06_First.f l = some r ∧ (r.2.2 = 0 → 8 ≤ r.2.1 ∧ r.2.1 ≤ l.length ∧ ∀ x ∈ r.1, 0 ≤ x ∧ x ≤ 255) := by
  unfold frame_first.f minstrelref06_First.f
  rw [if_pos (bytesB_iff.2 h)]
  by_cases c1 : (l.length : Int) < 8
  · rw [if_pos c1, if_pos c1]
    exact ⟨_, rfl, rfl, fun e => by simp at e⟩
  · rw [if_neg c1, if_neg c1, number_eq l h (by omega)]
    simp only [Option.bind_some]
    have hr := num4_range h (by omega)
    by_cases c2 : num4 l > 1048576
    · rw [if_pos c2, if_pos c2]
      exact ⟨_, rfl, rfl, fun e => by simp at e⟩
    · rw [if_neg c2, if_neg c2]
      by_cases c3 : num4 l > (l.length : Int) - 8
      · rw [if_pos c3, if_pos (by omega)]
        exact ⟨_, rfl, rfl, fun e => by simp at e⟩
      · rw [if_neg c3, if_neg (by omega)]
        obtain ⟨n, hn⟩ := Int.eq_ofNat_of_zero_le hr.1
        have hn8 : (8 + num4 l).toNat = 8 + n := by omega
        have bp : Bytes ((l.take (8 + n)).drop 8) := fun x hx => h x (List.mem_of_mem_take (List.mem_of_mem_drop hx))
        rw [hn8, sum_eq _ (by simpa using bytes_app (fun x hx => h x (List.mem_of_mem_take hx)) bp), number_eq _ (fun x hx => h x (List.mem_of_mem_drop hx)) (by simp; omega)]
        simp only [Option.bind_some]
        have ht := frame_test l h n hn (by omega)
        have hs : ((sumN (nat [l.take 4, (l.take (8 + n)).drop 8].flatten) : Nat) : Int) = sumL (l.take 4 ++ (l.take (8 + n)).drop 8) := by simp [sumL]
        rw [hs]
        by_cases c4 : sumL (l.take 4 ++ (l.take (8 + n)).drop 8) = num4 (l.drop 4)
        · rw [if_pos c4, if_pos (ht.1 c4)]
          exact ⟨_, rfl, rfl, fun _ => ⟨by show 8 ≤ 8 + num4 l; omega, by show 8 + num4 l ≤ _; omega, bp⟩⟩
        · rw [if_neg c4, if_neg (fun e => c4 (ht.2 e))]
          exact ⟨_, rfl, rfl, fun e => by simp at e⟩
theorem bytes_dropped {l : List Int} (h : Bytes l) (n : Nat) : Bytes (l.drop n) := fun x hx => h x (List.mem_of_mem_drop hx)
theorem scan_both (l : List Int) (h : Bytes l) (hl : l.length ≤ 1048576) : ∀ (d at_ : Nat) (acc : List (List Int)), at_ ≤ l.length → l.length - at_ < d → 8 * acc.length ≤ at_ →
    ∃ K r, 8 * r.1.length ≤ l.length ∧ ∀ k, K ≤ k → ((frame_first.f (l.drop at_)).bind fun b => frame_Scan.l0 k l acc (at_ : Int) b.1 b.2.1 b.2.2) = some r ∧ minstrelref06_Scan.l0 k l acc (at_ : Int) = some r := by
  intro d
  induction d with
  | zero => intro a acc _ h2; omega
  | succ d ih =>
    intro a acc ha hd hacc
    obtain ⟨r, e1, e2, e3⟩ := first_eq (l.drop a) (bytes_dropped h a)
    rw [e1]
    simp only [Option.bind_some]
    by_cases c : r.2.2 = 0
    · obtain ⟨h8, hle, hb⟩ := e3 c
      rw [List.length_drop] at hle
      obtain ⟨m, hm⟩ := Int.eq_ofNat_of_zero_le (show 0 ≤ r.2.1 by omega)
      obtain ⟨K, q, hql, hq⟩ := ih (a + m) (acc ++ [r.1]) (by omega) (by omega) (by simp; omega)
      have hw : wrap64 ((a : Int) + r.2.1) = ((a + m : Nat) : Int) := by unfold wrap64; omega
      refine ⟨K + 1, q, hql, fun k hk => ?_⟩
      obtain ⟨k, rfl⟩ : ∃ j, k = j + 1 := ⟨k - 1, by omega⟩
      have hk' := hq k (by omega)
      constructor
      · simp only [frame_Scan.l0]
        rw [if_pos c, if_pos (by omega), hw, if_pos (by omega), if_pos (by omega), Int.toNat_natCast]
        exact hk'.1
      · simp only [minstrelref06_Scan.l0]
        rw [if_pos (by omega), if_pos (by omega), Int.toNat_natCast, e2]
        simp only [Option.bind_some]
        rw [if_pos c, if_pos (by omega), hw]
        exact hk'.2
    · refine ⟨1, (acc, (a : Int)), by show 8 * acc.length ≤ _; omega, fun k hk => ?_⟩
      obtain ⟨k, rfl⟩ : ∃ j, k = j + 1 := ⟨k - 1, by omega⟩
      constructor
      · simp only [frame_Scan.l0]
        rw [if_neg c]
      · simp only [minstrelref06_Scan.l0]
        rw [if_pos (by omega), if_pos (by omega), Int.toNat_natCast, e2]
        simp only [Option.bind_some]
        rw [if_neg c]
theorem reads_loop (x : List (List Int)) (hx : x.length ≤ 140737488351232) : ∀ (d i k : Nat), i + d = x.length → minstrellaw06_FrameReads.l0 (k + d + 1) x x (i : Int) = some true := by
  intro d
  induction d with
  | zero =>
    intro i k h
    simp only [minstrellaw06_FrameReads.l0]
    rw [if_neg (by omega), lives_true]
    rfl
  | succ d ih =>
    intro i k h
    have hi := ih (i + 1) k (by omega)
    obtain ⟨m, hm⟩ : ∃ m, m = k + d + 1 := ⟨_, rfl⟩
    rw [show k + (d + 1) + 1 = (k + d + 1) + 1 by omega, ← hm]
    rw [← hm] at hi
    have hw : wrap64 ((i : Int) + 1) = ((i + 1 : Nat) : Int) := wrap_small i (by omega)
    simp only [minstrellaw06_FrameReads.l0]
    rw [if_pos (by omega), if_pos (by omega), if_pos (by omega), hw]
    rw [if_pos trivial]
    exact hi
theorem FrameReads (l0 : List Int) (hm : l0.length ≤ maxLen) (hy : l0.length * 1 ≤ 140737488351232) (hw : ∀ x ∈ l0, (Lit.int .u8 x).wf = true) (hb : l0.length ≤ 1048576) : ∃ k, minstrellaw06_FrameReads.f k l0 = some true := by
  have h := Bytes.of_wf hw
  have own : minstrellaw06_own.f l0 = some l0 := by
    unfold minstrellaw06_own.f
    simp only [Option.bind_some, List.nil_append, List.length_nil]
    rw [if_pos (by omega)]
  obtain ⟨r, e1, e2, _⟩ := first_eq l0 h
  obtain ⟨K, q, hql, hq⟩ := scan_both l0 h hb (l0.length + 1) 0 [] (Nat.zero_le _) (by omega) (by simp)
  have hF : frame_First.f l0 = some r := by
    unfold frame_First.f
    rw [e1]
    rfl
  have hsmall : q.1.length ≤ 140737488351232 := by omega
  refine ⟨K + q.1.length + 2, ?_⟩
  have hk := hq (K + q.1.length + 2) (by omega)
  rw [List.drop_zero] at hk
  have hS : frame_Scan.f (K + q.1.length + 2) l0 = some q := by
    unfold frame_Scan.f
    exact hk.1
  have hR : minstrelref06_Scan.f (K + q.1.length + 2) l0 = some q := by
    unfold minstrelref06_Scan.f
    exact hk.2
  unfold minstrellaw06_FrameReads.f
  rw [own]
  simp only [Option.bind_some]
  rw [hF, e2]
  simp only [Option.bind_some]
  rw [hS, hR]
  simp only [Option.bind_some]
  rw [if_pos trivial, if_pos trivial, if_pos trivial, if_pos trivial]
  simp only [minstrellaw06_FrameReads.j0]
  rw [if_neg (by simp)]
  have := reads_loop q.1 hsmall q.1.length 0 K (by omega)
  rw [show K + q.1.length + 1 = K + q.1.length + 1 from rfl]
  exact this
end Go.Proofs.YtjcaieecafggiaaDoor.Pure
