/- The plain law of FrameMakes: bytes become a frame as the document says, and come back from it. -/
import Derived.Test.YtjcaieecafggiaaDoorPureReads
import Derived.Test.YtjcaieecafggiaaDoorPu1
namespace Go.Proofs.YtjcaieecafggiaaDoor.Pure
open Go.RowKit Go.Proofs.YtjcaieecafggiaaDoor.Pr Go.Proofs.YtjcaieecafggiaaDoor.Pu Go.Proofs.YtjcaieecafggiaaDoorW.PrintWords Go.Proofs.YtjcaieecafggiaaDoorW.PrintLast Go.Proofs.YtjcaieecafggiaaDoorW.PrintMore Go.Proofs.YtjcaieecafggiaaDoor.Crc
set_option linter.unusedVariables false
set_option linter.unusedSimpArgs false
theorem frameL_length (l : List Int) : (frameL l).length = 8 + l.length := by
  unfold frameL
  have h4 : ∀ a, (fourL a).length = 4 := fun a => rfl
  simp only [List.length_append, h4]
  omega
theorem Frame_eq (l : List Int) (h : Bytes l) (hl : l.length ≤ 1048576) : frame_Frame.f l = some (frameL l, 0) := by
  unfold frame_Frame.f
  rw [if_neg (by omega), sum_eq _ (by simpa using bytes_app (bytes_four _) h)]
  simp [frameL, sumL]
theorem First_back (l m : List Int) (h : Bytes l) (hm : Bytes m) (hl : l.length ≤ 1048576) : frame_First.f (frameL l ++ m) = some (l, ((frameL l).length : Int), 0) := by
  have hb : Bytes (frameL l ++ m) := bytes_app (bytes_frame h) hm
  have hlen := frameL_length l
  have hn : num4 (frameL l ++ m) = (l.length : Int) := by
    have : num4 (fourL (l.length : Int) ++ ((fourL (sumL (fourL (l.length : Int) ++ l)) ++ l) ++ m)) = num4 (fourL (l.length : Int)) := rfl
    unfold frameL
    rw [List.append_assoc, this]
    exact num_four _ (by omega) (by omega)
  have ht : (frameL l ++ m).take (8 + l.length) = frameL l := by rw [List.take_append_of_le_length (by omega), List.take_of_length_le (by omega)]
  have hd : (frameL l).drop 8 = l := by
    unfold frameL
    rw [← List.append_assoc, List.drop_append_of_le_length (by simp [fourL]), List.drop_of_length_le (by simp [fourL]), List.nil_append]
  obtain ⟨r, e1, e2, _⟩ := first_eq _ hb
  have e3 : minstrelref06_First.f (frameL l ++ m) = some (l, ((frameL l).length : Int), 0) := by
    unfold minstrelref06_First.f
    have h8 : (8 + num4 (frameL l ++ m)).toNat = 8 + l.length := by rw [hn]; omega
    rw [if_pos (bytesB_iff.2 hb), if_neg (by simp only [List.length_append]; omega), if_neg (by rw [hn]; omega), if_neg (by rw [hn]; simp only [List.length_append]; omega), h8, ht, hd, if_pos rfl, hn, hlen]
    simp
  unfold frame_First.f
  rw [e1, ← e2, e3]
  rfl
theorem FrameMakes (l0 l1 : List Int) (hm0 : l0.length ≤ maxLen) (hy0 : l0.length * 1 ≤ 140737488351232) (hw0 : ∀ x ∈ l0, (Lit.int .u8 x).wf = true) (hm1 : l1.length ≤ maxLen) (hy1 : l1.length * 1 ≤ 140737488351232) (hw1 : ∀ x ∈ l1, (Lit.int .u8 x).wf = true) (hb : l0.length + l1.length ≤ 1048576) : ∃ k, minstrellaw06_FrameMakes.f k l0 l1 = some true := by
  have h0 := Bytes.of_wf hw0
  have h1 := Bytes.of_wf hw1
  have hl := frameL_length l0
  have own : ∀ l : List Int, l.length ≤ 2000000 → minstrellaw06_own.f l = some l := fun l hl => by
    unfold minstrellaw06_own.f
    simp only [Option.bind_some, List.nil_append, List.length_nil]
    rw [if_pos (by omega)]
  refine ⟨10 * (l0.length + 4) + 1, ?_⟩
  unfold minstrellaw06_FrameMakes.f
  rw [own l0 (by omega)]
  simp only [Option.bind_some]
  rw [Frame_eq l0 h0 (by omega)]
  simp only [Option.bind_some]
  rw [if_neg (by omega), own _ (by omega)]
  simp only [Option.bind_some]
  rw [if_pos (by omega), First_back l0 l1 h0 h1 (by omega)]
  simp only [Option.bind_some]
  rw [ref_Frame_eq l0 h0 (by omega)]
  simp only [Option.bind_some]
  simp only [if_true]
  rw [lives_true]
  rfl
end Go.Proofs.YtjcaieecafggiaaDoor.Pure
