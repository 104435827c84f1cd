/- prog.ends, prog.ups: contracts of their calls. -/
import Derived.Test.YtlhnkfheojlghaaDoorChkA
namespace Go.Proofs.YtlhnkfheojlghaaDoor.Pr
open Go.RowKit Go.Proofs.YtlhnkfheojlghaaDoorW.PrintWords Go.Proofs.YtlhnkfheojlghaaDoorW.PrintLast Go.Proofs.YtlhnkfheojlghaaDoorW.PrintMore
set_option linter.unusedVariables false
set_option linter.unusedSimpArgs false
theorem wrap_id {n : Int} (h0 : -9223372036854775808 ≤ n) (h1 : n ≤ 9223372036854775807) : wrap64 n = n := by
  unfold wrap64
  omega
theorem ends_f (a b : Int) (l2 : List S94) (l3 : List S36) (l4 : List S98) (l5 : List S27) (hl : (l3.length : Int) ≤ 9223372036854775807) : prog_ends.f a b l2 l3 l4 l5 = some (endsM l3) := by
  unfold prog_ends.f endsM
  rcases l3.eq_nil_or_concat with rfl | ⟨l, x, rfl⟩
  · rfl
  · rw [List.concat_eq_append] at hl ⊢
    have e1 : ((l ++ [x]).length : Int) = (l.length : Int) + 1 := by simp
    rw [e1] at hl ⊢
    have e2 : wrap64 ((l.length : Int) + 1 - 1) = (l.length : Int) := by rw [wrap_id (by omega) (by omega)]; omega
    have e3 : rd_T36 (l ++ [x]) (l.length : Int) = x := by simp [rd_T36]
    rw [if_neg (by omega), e2, if_pos (by omega), if_pos (by omega), e3, List.getLast?_append]
    simp only [List.getLast?_singleton, Option.or_some, Option.some_or]
    by_cases h1 : x.f0 = 29
    · simp [h1]
    by_cases h2 : x.f0 = 33
    · simp [h2]
    by_cases h3 : x.f0 = 34
    · simp [h3]
    · simp [h1, h2, h3]
/-- The box of the pointer to the function about. -/
structure AbBox (w : World) (bx ab : Nat) (r : Int) (A : Option Addr) (n c : Nat) : Prop where
  box : w.cell? ⟨bx, 0, none⟩ = some (.pointer (some ⟨ab, 0, none⟩))
  regs : w.cell? ⟨ab, 1, none⟩ = some (.int .i64 r)
  ups : w.cell? ⟨ab, 2, none⟩ = some (.slice A n c)
set_option maxRecDepth 100000 in
set_option maxHeartbeats 1000000 in
theorem badU_calls (w : World) (bx ab : Nat) (r : Int) (A : Option Addr) (n c : Nat) (h : AbBox w bx ab r A n c) (u : S94) :
    Calls Tryd.prog 78 #[.agg #[.bool u.f0, .int .i64 u.f1], .pointer (some ⟨bx, 0, none⟩)] w fun e w' => e = .returned (.bool (badU r (n : Int) u)) ∧ Below w.heap.size w w' := by
  obtain ⟨o, at_⟩ := u
  obtain ⟨W1, hW1⟩ : ∃ W1, W1 = w.alloc (.cells #[.bool o, .int .i64 at_] 94) := ⟨_, rfl⟩
  have hb : Below w.heap.size w W1 := by rw [hW1]; exact (Below.refl _ w).alloc (Nat.le_refl _) _
  have hblk := heap_alloc_new w (.cells #[.bool o, .int .i64 at_] 94)
  rw [← hW1] at hblk
  have k0 : W1.cell? ⟨w.heap.size, 0, none⟩ = some (.bool o) := by rw [cell_of_row W1 _ 0 _ _ _ hblk]; rfl
  have k1 : W1.cell? ⟨w.heap.size, 1, none⟩ = some (.int .i64 at_) := by rw [cell_of_row W1 _ 1 _ _ _ hblk]; rfl
  have b0 := pw_cell_below hb h.box
  have b1 := pw_cell_below hb h.regs
  have b2 := pw_cell_below hb h.ups
  have HB := Aside0.mk hb
  clear h hblk hb
  have fin : ∀ bb : Bool, bb = badU r (n : Int) ⟨o, at_⟩ → ∀ m, (Ending.returned (.bool bb) = Ending.returned (.bool (badU r (n : Int) ⟨o, at_⟩)) ∧ Below w.heap.size w (W1.drewN m)) := fun bb hbb m => ⟨by rw [hbb], pw_below_drewN HB.out m⟩
  have FIN := Aside0.mk fin
  clear fin
  by_cases h0 : at_ < 0
  · have d0 : decide (at_ < 0) = true := decide_eq_true h0
    go_enter Tryd.func78, Tryd.ntmps78
    go_wp2_with fail
    rw [← hW1]
    clear hW1
    go_quiet (fail)
    go_wp2_with fail
    go_ret
    exact FIN.out _ (by simp [badU, h0]) _
  · have d0 : decide (at_ < 0) = false := decide_eq_false h0
    cases o with
    | true =>
      by_cases h1 : r ≤ at_
      · have d1 : decide (r ≤ at_) = true := decide_eq_true h1
        go_enter Tryd.func78, Tryd.ntmps78
        go_wp2_with fail
        rw [← hW1]
        clear hW1
        go_quiet (fail)
        go_wp2_with fail
        go_ret
        exact FIN.out _ (by simp [badU, h0, h1]) _
      · have d1 : decide (r ≤ at_) = false := decide_eq_false h1
        go_enter Tryd.func78, Tryd.ntmps78
        go_wp2_with fail
        rw [← hW1]
        clear hW1
        go_quiet (fail)
        go_wp2_with fail
        go_ret
        exact FIN.out _ (by simp [badU, h0, h1]) _
    | false =>
      by_cases h1 : (n : Int) ≤ at_
      · have d1 : decide ((n : Int) ≤ at_) = true := decide_eq_true h1
        go_enter Tryd.func78, Tryd.ntmps78
        go_wp2_with fail
        rw [← hW1]
        clear hW1
        go_quiet (fail)
        go_wp2_with fail
        go_ret
        exact FIN.out _ (by simp [badU, h0, h1]) _
      · have d1 : decide ((n : Int) ≤ at_) = false := decide_eq_false h1
        go_enter Tryd.func78, Tryd.ntmps78
        go_wp2_with fail
        rw [← hW1]
        clear hW1
        go_quiet (fail)
        go_wp2_with fail
        go_ret
        exact FIN.out _ (by simp [badU, h0, h1]) _
end Go.Proofs.YtlhnkfheojlghaaDoor.Pr
