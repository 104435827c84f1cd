/- prog.ups, prog.operands, prog.can: contracts of their calls. -/
import Derived.Test.YtlhnkfheojlghaaDoorChkB
namespace Go.Proofs.YtlhnkfheojlghaaDoor.Pr
open Go.RowKit Go.Proofs.YtlhnkfheojlghaaDoorW.PrintWords Go.Proofs.YtlhnkfheojlghaaDoorW.PrintLast Go.Proofs.YtlhnkfheojlghaaDoorW.PrintMore
set_option linter.unusedVariables false
set_option linter.unusedSimpArgs false
/-- The function about, as it lies in memory. -/
def AboutIs (w : World) : Option (Int × Int) → Value → Prop
  | none, v => v = .pointer none
  | some (r, u), v => ∃ b A n c, v = .pointer (some ⟨b, 0, none⟩) ∧ w.cell? ⟨b, 1, none⟩ = some (.int .i64 r) ∧ w.cell? ⟨b, 2, none⟩ = some (.slice A n c) ∧ u = (n : Int)
theorem AboutIs.below {w w' : World} {ab : Option (Int × Int)} {v : Value} (h : AboutIs w ab v) (hb : Below w.heap.size w w') : AboutIs w' ab v := by
  cases ab with
  | none => exact h
  | some x =>
    obtain ⟨r, u⟩ := x
    obtain ⟨b, A, n, c, h1, h2, h3, h4⟩ := h
    exact ⟨b, A, n, c, h1, pw_cell_below hb h2, pw_cell_below hb h3, h4⟩
theorem len0 {α : Type} (l : List α) : ((l.length : Int) == 0) = decide (l.length = 0) := by
  by_cases h : l.length = 0
  · rw [h]; rfl
  · rw [decide_eq_false h]; exact beq_eq_false_iff_ne.mpr (by omega)
/-- A function's cells. -/
def cellsP (f0 f1 : Int) (A2 : Option Addr) (n2 c2 : Nat) (A3 : Option Addr) (n3 c3 : Nat) (A4 : Option Addr) (n4 c4 : Nat) (A5 : Option Addr) (n5 c5 : Nat) : Array Value := #[.int .i64 f0, .int .i64 f1, .slice A2 n2 c2, .slice A3 n3 c3, .slice A4 n4 c4, .slice A5 n5 c5]
set_option maxRecDepth 100000 in
set_option maxHeartbeats 1000000 in
theorem ups_calls (w0 w : World) (hb : Below w0.heap.size w0 w) (f0 f1 : Int) (A2 : Option Addr) (c2 : Nat) (l2 : List S94) (hC : Kd.C k94 w0 A2 l2.length l2) (A3 : Option Addr) (n3 c3 : Nat) (A4 : Option Addr) (n4 c4 : Nat) (A5 : Option Addr) (n5 c5 : Nat) (ab : Option (Int × Int)) (v : Value) (ha : AboutIs w ab v) :
    Calls Tryd.prog 67 #[.agg #[.int .i64 f0, .int .i64 f1, .slice A2 l2.length c2, .slice A3 n3 c3, .slice A4 n4 c4, .slice A5 n5 c5], v] w fun e w' => e = .returned (.bool (upsM l2 ab)) ∧ Below w.heap.size w w' := by
  have HB := Aside0.mk hb
  have HC := Aside0.mk hC
  have hlen : (l2.length : Int) ≤ 9223372036854775807 := by have := hC.2.1; omega
  cases ab with
  | none =>
    obtain rfl : v = .pointer none := ha
    clear hb hC
    have B1 := Aside0.mk (((Below.refl w.heap.size w).alloc (Nat.le_refl _) (.cells #[.int .i64 f0, .int .i64 f1, .slice A2 l2.length c2, .slice A3 n3 c3, .slice A4 n4 c4, .slice A5 n5 c5] 27)).alloc (by simp) (.cells #[.pointer none] 108))
    go_enter Tryd.func67, Tryd.ntmps67
    go_wp2_with fail
    go_ret
    exact ⟨congrArg (fun bb => Ending.returned (.bool bb)) (len0 l2), B1.out⟩
  | some x =>
    obtain ⟨r, u⟩ := x
    obtain ⟨b, A, n, c, rfl, h2, h3, rfl⟩ := ha
    obtain ⟨W1, hW1⟩ : ∃ W1, W1 = (w.alloc (.cells #[.int .i64 f0, .int .i64 f1, .slice A2 l2.length c2, .slice A3 n3 c3, .slice A4 n4 c4, .slice A5 n5 c5] 27)).alloc (.cells #[.pointer (some ⟨b, 0, none⟩)] 108) := ⟨_, rfl⟩
    have B1 : Aside0 (Below w.heap.size w W1) := ⟨by rw [hW1]; exact ((Below.refl w.heap.size w).alloc (Nat.le_refl _) _).alloc (by simp) _⟩
    have hbox : W1.cell? ⟨w.heap.size + 1, 0, none⟩ = some (.pointer (some ⟨b, 0, none⟩)) := by
      have h := heap_alloc_new (w.alloc (.cells #[.int .i64 f0, .int .i64 f1, .slice A2 l2.length c2, .slice A3 n3 c3, .slice A4 n4 c4, .slice A5 n5 c5] 27)) (.cells #[.pointer (some ⟨b, 0, none⟩)] 108)
      rw [← hW1] at h
      rw [show (w.alloc (.cells #[.int .i64 f0, .int .i64 f1, .slice A2 l2.length c2, .slice A3 n3 c3, .slice A4 n4 c4, .slice A5 n5 c5] 27)).heap.size = w.heap.size + 1 by simp] at h
      rw [cell_of_row W1 _ 0 _ _ _ h]; rfl
    have hA : Aside0 (AbBox W1 (w.heap.size + 1) b r A n c) := ⟨⟨hbox, pw_cell_below B1.out h2, pw_cell_below B1.out h3⟩⟩
    have HCO := Aside0.mk (containsU_calls w0 W1 (HB.out.trans (B1.out.mono HB.out.size)) A2 c2 l2 hC (badU r (n : Int)) 78 #[.pointer (some ⟨w.heap.size + 1, 0, none⟩)] (by intro args W; kernel_rfl)
      (fun x hx W hW => badU_calls W (w.heap.size + 1) b r A n c ⟨pw_cell_below hW hA.out.box, pw_cell_below hW hA.out.regs, pw_cell_below hW hA.out.ups⟩ x))
    clear hb hC h2 h3 hbox hA
    go_enter Tryd.func67, Tryd.ntmps67
    go_wp2_with (go_at_call 77; rw [← hW1]; refine HCO.out.mono ?_; rintro e w2 ⟨rfl, hb2⟩; have B2 := Aside0.mk hb2; clear hb2)
    go_ret
    exact ⟨rfl, below_step B1.out B2.out⟩
set_option maxRecDepth 100000 in
set_option maxHeartbeats 1000000 in
theorem operands_calls (w : World) (i : S36) :
    Calls Tryd.prog 46 #[.agg #[.int .i64 i.f0, .int .i64 i.f1, .int .i64 i.f2, .int .i64 i.f3]] w fun e w' => e = .returned (.agg #[.int .i64 i.f1, .int .i64 i.f2, .int .i64 i.f3]) ∧ Below w.heap.size w w' := by
  obtain ⟨a, b, c, d⟩ := i
  have B1 := Aside0.mk (((Below.refl w.heap.size w).alloc (Nat.le_refl _) (.cells #[.int .i64 a, .int .i64 b, .int .i64 c, .int .i64 d] 36)).alloc (by simp) (.cells #[.int .i64 b, .int .i64 c, .int .i64 d] 82))
  go_enter Tryd.func46, Tryd.ntmps46
  go_wp2_with fail
  refine bodyPost_ret (results_cell_row rfl _ _ (w.heap.size + 1) 82 #[.int .i64 b, .int .i64 c, .int .i64 d] (0, 0) _ (by rfl) (by have h := heap_alloc_new (w.alloc (.cells #[.int .i64 a, .int .i64 b, .int .i64 c, .int .i64 d] 36)) (.cells #[.int .i64 b, .int .i64 c, .int .i64 d] 82); rw [show (w.alloc (.cells #[.int .i64 a, .int .i64 b, .int .i64 c, .int .i64 d] 36)).heap.size = w.heap.size + 1 by simp] at h; exact h) (by exact Tryd.underlying82) (by rfl) (by kernel_rfl)) rfl ?_
  exact ⟨rfl, B1.out⟩
end Go.Proofs.YtlhnkfheojlghaaDoor.Pr
