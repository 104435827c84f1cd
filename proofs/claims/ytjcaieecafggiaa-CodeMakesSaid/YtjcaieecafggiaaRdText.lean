/- The reader of package code: cell at a text. -/
import Derived.Test.YtjcaieecafggiaaRdCell
namespace Go.Proofs.Ytjcaieecafggiaa.Pr
open Go.RowKit Go.Proofs.YtjcaieecafggiaaW.PrintWords Go.Proofs.YtjcaieecafggiaaW.PrintLast Go.Proofs.YtjcaieecafggiaaW.PrintMore
set_option linter.unusedVariables false
set_option linter.unusedSimpArgs false
set_option maxHeartbeats 1600000 in
set_option maxRecDepth 100000 in
theorem rcell_text {w0 w : World} {p : Nat} {b : Int} {bs : List Int} (h : Rd w0 p w (b :: bs)) (deep : Nat) (hb : wrap64 b = 1) (c : S26) (rest : List Int) (e0 : Int)
    (hl : bs.length ≤ 1048576) (hz : (if bs.length < 4 then some (z26, bs, 3)
      else if 0 ≤ wrap64 (numR (bs.take 4) 0) then
        if ((bs.drop 4).length : Int) < wrap64 (numR (bs.take 4) 0) then some (z26, bs, 3)
        else some ((⟨wrap64 b, 0, strOfNums ((bs.drop 4).take (wrap64 (numR (bs.take 4) 0)).toNat), []⟩ : S26), (bs.drop 4).drop (wrap64 (numR (bs.take 4) 0)).toNat, (0 : Int))
      else none) = some (c, rest, e0)) :
    Calls Try.prog 24 #[.pointer (some ⟨p, 0, none⟩), .int .i64 deep] w (CellEnd w0 p w c rest e0) := by
  have hbel : ∀ o, Below w.heap.size w (w.alloc o) := fun o => (Below.refl _ _).alloc (Nat.le_refl _) _
  have HB := Aside0.mk hbel
  have H := Aside0.mk h
  have HZ := Aside0.mk hz
  have hbb0 : (wrap64 b == 0) = false := beq_eq_false_iff_ne.mpr (by omega)
  have hbb : (wrap64 b == 1) = true := beq_iff_eq.mpr hb
  have HBB := Aside0.mk hb
  clear h hbel hz hb
  go_enter Try.func24, Try.ntmps24
  go_wp2_with fail
  refine (take1_calls (H.out.below (HB.out _))).mono ?_
  rintro e w2 ⟨ad, cc, rfl, hc, hx0, hE⟩
  have HE := Aside0.mk hE
  clear hE
  have h42 := HE.out.kept.2 w.heap.size (by simp) (by have := H.out.lt; omega)
  have hb4 : w2.heap[w.heap.size]? = some (.cells #[.int .i64 0, .int .u64 0, .string ⟨#[]⟩, .slice none 0 0] 26 (0, 0)) := h42.trans (heap_at rfl)
  have hp2 := HE.out.rd.lt
  have hps : p < w.heap.size := H.out.lt
  have hne45 : w.heap.size < w2.heap.size := (Array.getElem?_eq_some_iff.1 hb4).1
  obtain ⟨q4, h4⟩ : ∃ q, q = w.heap.size := ⟨_, rfl⟩
  obtain ⟨q5, h5⟩ : ∃ q, q = w2.heap.size := ⟨_, rfl⟩
  have H4 := Aside0.mk h4
  have H5 := Aside0.mk h5
  go_wp2_with fail
  refine (number_calls (HE.out.rd.below ((Below.refl _ _).alloc (Nat.le_refl _) _)) 4 (by omega)).mono ?_
  rintro e w3 (⟨hle, rfl, hE3⟩ | ⟨hlt, rfl, rfl⟩)
  · have hb43 : w3.heap[q4]? = some (.cells #[.int .i64 0, .int .u64 0, .string ⟨#[]⟩, .slice none 0 0] 26 (0, 0)) := by
      rw [h4]
      exact blk_kept ((heap_under hne45).trans hb4) hE3.kept (by omega)
    have hb53 : w3.heap[q5]? = some (.cells #[.int .i64 (wrap64 b), .int .u64 0, .string ⟨#[]⟩, .slice none 0 0] 26 (0, 0)) := by
      rw [h5]
      exact blk_kept (heap_at rfl) hE3.kept (by omega)
    have HE3 := Aside0.mk (HE.out.trans (RdEnd.from HE.out.rd.top ((Below.refl _ _).alloc (Nat.le_refl _) _) hE3))
    rw [← h4, ← h5]
    have hn45 : q4 ≠ q5 := by omega
    have hn54 : q5 ≠ q4 := by omega
    have hp4 : q4 ≠ p := by omega
    have hp5 : q5 ≠ p := by omega
    have HB43 := Aside0.mk hb43
    have HB53 := Aside0.mk hb53
    have HLE := Aside0.mk hle
    have hzz := HZ.out
    rw [if_neg (by omega)] at hzz
    obtain ⟨n, hn⟩ : ∃ n, n = wrap64 (numR (bs.take 4) 0) := ⟨_, rfl⟩
    rw [← hn] at hzz
    have HN := Aside0.mk hn
    by_cases h0 : 0 ≤ n
    · rw [if_pos h0] at hzz
      have HZZ := Aside0.mk hzz
      have H0 := Aside0.mk h0
      clear hb43 hb53 hE3 h4 h5 hle hb4 h42 hx0 hn hzz h0 HZ
      go_wp2_with fail
      rw [← HN.out]
      refine (takes_calls HE3.out.rd n H0.out).mono ?_
      rintro e w4 (⟨hle2, A2, c2, rfl, hc2, hC2, hE4⟩ | ⟨hlt, rfl, rfl⟩)
      · have hCw := Kd.C_below hC2 hE4.rd.frm
        have hcv := Kd.C_string (P := Try.prog) (A := A2) (c := c2) Try.underlying22 Try.underlying5 Try.underlying9 hCw
        have hb44 := blk_kept HB43.out hE4.kept hp4
        have hb54 := blk_kept HB53.out hE4.kept hp5
        have HE4 := Aside0.mk (HE3.out.trans hE4)
        have hc50 : w4.cell? ⟨q5, 0, none⟩ = some (.int .i64 (wrap64 b)) := (blk_cell hb54 0).trans rfl
        have hc51 : w4.cell? ⟨q5, 1, none⟩ = some (.int .u64 0) := (blk_cell hb54 1).trans rfl
        have hc52 : w4.cell? ⟨q5, 2, none⟩ = some (.string ⟨#[]⟩) := (blk_cell hb54 2).trans rfl
        have hc53 : w4.cell? ⟨q5, 3, none⟩ = some (.slice none 0 0) := (blk_cell hb54 3).trans rfl
        have hc40 : w4.cell? ⟨q4, 0, none⟩ = some (.int .i64 0) := (blk_cell hb44 0).trans rfl
        have hc41 : w4.cell? ⟨q4, 1, none⟩ = some (.int .u64 0) := (blk_cell hb44 1).trans rfl
        have hc42 : w4.cell? ⟨q4, 2, none⟩ = some (.string ⟨#[]⟩) := (blk_cell hb44 2).trans rfl
        have hc43 : w4.cell? ⟨q4, 3, none⟩ = some (.slice none 0 0) := (blk_cell hb44 3).trans rfl
        have hf5 := blk_frozen hb54
        have hf4 := blk_frozen hb44
        have HB44 := Aside0.mk hb44
        have HLE2 := Aside0.mk hle2
        obtain ⟨ln, hln⟩ : ∃ ln, ln = ((bs.drop 4).take n.toNat).length := ⟨_, rfl⟩
        rw [← hln] at hcv hc2 ⊢
        clear hb44 hb54 hE4 hle2 hCw hC2 hln
        go_wp2
        have hzz := HZZ.out
        rw [if_neg (by have := HLE2.out; omega)] at hzz
        simp only [Option.some.injEq, Prod.mk.injEq] at hzz
        obtain ⟨rfl, rfl, rfl⟩ := hzz
        have htop := H.out.top
        have hle5 : w.heap.size ≤ q5 := by rw [H5.out]; omega
        have hle4 : w.heap.size ≤ q4 := by rw [H4.out]; omega
        refine cell_fin (blk_far HB44.out hn45 _) _ _ _ _ _ rfl rfl _ (Or.inl ⟨rfl, _, rfl, Kd.R_nil _ _ _ _ _, ?_⟩)
        exact (((((RdEnd.from H.out.top (HB.out _) HE4.out).far hle5 (by omega) _).far hle4 (by omega) _).far hle4 (by omega) _).far hle4 (by omega) _).far hle4 (by omega) _
      · have hzz := HZZ.out
        rw [if_pos (by omega)] at hzz
        simp only [Option.some.injEq, Prod.mk.injEq] at hzz
        obtain ⟨rfl, rfl, rfl⟩ := hzz
        clear hlt
        unfold wrongE
        go_wp2
        unfold bodyPost
        exact ⟨rfl, Or.inr ⟨by decide, rfl, _, (RdEnd.from H.out.top (HB.out _) HE3.out)⟩⟩
    · rw [if_neg h0] at hzz
      exact absurd hzz (by simp)
  · have HE3 := Aside0.mk (HE.out.trans (RdEnd.from HE.out.rd.top ((Below.refl w2.heap.size w2).alloc (Nat.le_refl _) (.cells #[.int .i64 (wrap64 b), .int .u64 0, .string ⟨#[]⟩, .slice none 0 0] 26)) (RdEnd.refl (HE.out.rd.below ((Below.refl _ _).alloc (Nat.le_refl _) _)))))
    have hzz := HZ.out
    rw [if_pos hlt] at hzz
    simp only [Option.some.injEq, Prod.mk.injEq] at hzz
    obtain ⟨rfl, rfl, rfl⟩ := hzz
    clear hb4 h42 h4 h5 hlt
    unfold wrongE
    go_wp2
    unfold bodyPost
    exact ⟨rfl, Or.inr ⟨by decide, rfl, _, (RdEnd.from H.out.top (HB.out _) HE3.out)⟩⟩
end Go.Proofs.Ytjcaieecafggiaa.Pr
