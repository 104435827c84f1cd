/- The writer of package code: cell at a text. -/
import Derived.Test.YtjcaieecafggiaaWrWalk
import Derived.Deep.RegionLaw
namespace Go.Proofs.Ytjcaieecafggiaa.Pr
open Go.RowKit Go.Proofs.YtjcaieecafggiaaW.PrintWords Go.Proofs.YtjcaieecafggiaaW.PrintLast Go.Proofs.YtjcaieecafggiaaW.PrintMore
set_option linter.unusedVariables false
set_option linter.unusedSimpArgs false
/-- A block made since is none of the writer's. -/
theorem Wr.far {B p : Nat} {w w1 : World} {v : Value} {xs : List Int} {o : Obj} (h : Wr B p w v xs) (hk : Kept (w.alloc o) w1 (fun k => k = p ∨ some k = v.ownBlock)) : w1.heap[w.heap.size]? = some o := by
  refine blk_kept (heap_alloc_new w o) hk ?_
  rintro (e | e)
  · have := h.lt; omega
  · have := own_lt h.own _ e.symm; omega
theorem strCells_bytes (xs : List Int) (s : ByteArray) : nums .u8 xs ++ Lib.strCells s = nums .u8 (xs ++ bytesOf s) := by
  rw [nums_append]
  congr 1
  simp [nums, bytesOf, Lib.strCells]
set_option maxHeartbeats 1600000 in
set_option maxRecDepth 100000 in
theorem cell_text (w0 : World) (p : Nat) (N : Int) (S : ByteArray) (V3 : Value) (deep : Nat) (w : World) (v : Value) (xs : List Int) (h : Wr w0.heap.size p w v xs) (hl : xs.length ≤ 1048576) (h3 : V3.oneCell' = true) (hs : S.size ≤ 1048576) :
    Calls Try.prog 26 #[.pointer (some ⟨p, 0, none⟩), .agg #[.int .i64 1, .int .u64 N, .string S, V3], .int .i64 deep] w fun e w' =>
      (lookC (xs.length + 5) = 0 ∧ e = endOf (lookC (xs.length + 5 + S.size)) ∧ WrEnd w0.heap.size p w v w' (xs ++ (1 :: beB S.size 4) ++ bytesOf S)) ∨ (lookC (xs.length + 5) ≠ 0 ∧ e = endOf 2 ∧ WrEnd w0.heap.size p w v w' (xs ++ (1 :: beB S.size 4))) := by
  have hbel : ∀ o, Below w.heap.size w (w.alloc o) := fun o => (Below.refl _ _).alloc (Nat.le_refl _) _
  obtain ⟨i0, hi, hz0, hz1, hz2⟩ := info_parts info5
  have HI := Aside0.mk hi
  have H := Aside0.mk h
  have HB := Aside0.mk hbel
  have b0 : decide (1048576 < (S.size : Int)) = false := decide_eq_false (by omega)
  have b1 : decide (1048576 < S.size) = false := decide_eq_false (by omega)
  have HS := Aside0.mk hs
  have HW : Aside0 (IntKind.u64.wrap (S.size : Int) = (S.size : Int)) := ⟨IntWalk.u64_in _ (by omega)⟩
  clear h hbel hi hs
  go_enter Try.func26, Try.ntmps26
  go_wp2_with fail
  rw [HW.out]
  refine (put_calls (H.out.below (HB.out _)) hl 1 _ 4 (by omega)).mono ?_
  rintro e w2 ⟨rfl, hE⟩
  rw [lookE_eq]
  rcases lookC_or (xs.length + (1 + 4)) with hq | hq
  · have HQ := Aside0.mk hq
    rw [hq, endOf_zero]
    have hx5 := lookC_zero hq
    clear hq
    obtain ⟨v1, hw1, ho1, hb1, hk1⟩ := hE
    have hbox := H.out.far hk1
    have hc2 : w2.cell? ⟨w.heap.size, 2, none⟩ = some (.string S) := (blk_cell hbox 2).trans rfl
    obtain ⟨ys, hys⟩ : ∃ ys, ys = xs ++ (1 :: beB S.size 4) := ⟨_, rfl⟩
    have hw1' : Wr w0.heap.size p w2 v1 ys := by rw [hys]; exact hw1
    have hyl : ys.length = xs.length + 5 := by rw [hys]; simp [beB_length]
    have hyl2 : ys.length ≤ 1048576 := by omega
    obtain ⟨A1, c1, hv1⟩ := own_slice hw1'.own
    have hcp : w2.cell? ⟨p, 0, none⟩ = some (.slice A1 ys.length c1) := by rw [← hv1]; exact (blk_cell hw1'.blk 0).trans rfl
    subst hv1
    have H1 := Aside0.mk hw1'
    have H2 : Aside0 (((Value.slice A1 ys.length c1).ownBlock = v.ownBlock ∨ ∃ b, (Value.slice A1 ys.length c1).ownBlock = some b ∧ w.heap.size ≤ b) ∧ Below w0.heap.size w w2 ∧ Kept w w2 (fun k => k = p ∨ some k = v.ownBlock)) := by
      obtain ⟨v3, k1, k2, k3, k4⟩ := WrEnd.from (Nat.le_trans H.out.base (Nat.le_of_lt H.out.lt)) (HB.out _) ⟨_, hw1, ho1, hb1, hk1⟩
      refine ⟨?_, k3, k4⟩
      rcases ho1 with e | ⟨b, e, hb⟩
      · exact .inl e
      · exact .inr ⟨b, e, Nat.le_trans (by simp) hb⟩
    have HY := Aside0.mk hys
    have HYL := Aside0.mk hyl
    have hpr : p < w2.heap.size := hw1'.lt
    clear hw1 hw1' ho1 hb1 hk1 hbox hys hyl
    have hsz := HS.out
    go_wp2_with fail
    go_region_law ((refine step_append_str _ (by rfl) (.tmp 38) (.tmp 40) 22 9 (by rfl) w0.heap.size 5 i0 Try.underlying22 Try.underlying9 HI.out hz0 hz1 hz2 (.slice A1 ys.length c1) ys.length (nums .u8 ys) (by simp [Act.eval, Act.put]) H1.out.own S (by simp [Act.eval, Act.put]) (by omega) (Nat.le_trans H1.out.base (Nat.le_of_lt H1.out.lt)) ?_; intro A2 c2 w3 hown2 hgrow2 hat2; have hcz := H1.out.ahead (below_drew (Below.refl _ _)) hgrow2; have hc3 := hcz.1; have hz3 := hcz.2; have HP2 := Aside0.mk (H1.out.pushed (ys := bytesOf S) (below_drew (Below.refl _ _)) (by rw [← strCells_bytes]; exact hown2) hgrow2 hat2); clear hcz hown2 hgrow2 hat2))
    all_goals
      clear hc2 hcp
      have HL := Aside0.mk (looks_calls HP2.out.1)
      go_wp2_with fail
      refine HL.out.mono ?_
      rintro e w5 ⟨rfl, rfl⟩
      clear HL
      have HE : Aside0 (WrEnd w0.heap.size p w v (w3.setCell ⟨p, 0, none⟩ (.slice A2 (ys.length + S.size) c2)) (xs ++ (1 :: beB S.size 4) ++ bytesOf S)) := ⟨⟨_, by rw [← HY.out]; exact HP2.out.1, wr_chain H2.out HP2.out.2⟩⟩
      rw [show lookE (ys ++ bytesOf S).length = endOf (lookC (xs.length + 5 + S.size)) from by rw [lookE_eq, List.length_append, HYL.out, bytesOf_length]]
      rcases lookC_or (xs.length + 5 + S.size) with hq2 | hq2
      · have HQ2 := Aside0.mk hq2
        rw [hq2, endOf_zero]
        clear hq2
        go_wp2
        go_end0
        exact Or.inl ⟨HQ.out, by rw [HQ2.out]; rfl, HE.out⟩
      · have HQ2 := Aside0.mk hq2
        rw [hq2, endOf_not (by decide)]
        clear hq2
        unfold wrongE
        go_wp2
        unfold bodyPost
        exact ⟨rfl, Or.inl ⟨HQ.out, by rw [HQ2.out]; rfl, HE.out⟩⟩
  · have HQ := Aside0.mk hq
    rw [hq, endOf_not (by decide)]
    have HE := Aside0.mk (WrEnd.from (Nat.le_trans H.out.base (Nat.le_of_lt H.out.lt)) (HB.out _) hE)
    clear hq hE
    unfold wrongE
    go_wp2
    unfold bodyPost
    exact ⟨rfl, Or.inr ⟨by rw [show xs.length + 5 = xs.length + (1 + 4) by omega, HQ.out]; decide, rfl, HE.out⟩⟩
end Go.Proofs.Ytjcaieecafggiaa.Pr
