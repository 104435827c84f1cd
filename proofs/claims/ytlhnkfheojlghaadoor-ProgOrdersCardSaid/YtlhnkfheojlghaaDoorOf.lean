/- prog.of: an order out of the laid table: a contract of its call; the powers of ten (for strconv.Itoa) beside it. -/
import Derived.Test.YtlhnkfheojlghaaDoorPr0
import Derived.Shelf.Lay
import Derived.Shelf.LaysM
import Derived.Shelf.Strconv.Itoa3
namespace Go.Proofs.YtlhnkfheojlghaaDoor.Pr
open Go.RowKit Go.Proofs.YtlhnkfheojlghaaDoorW.PrintWords Go.Proofs.YtlhnkfheojlghaaDoorW.PrintLast Go.Proofs.YtlhnkfheojlghaaDoorW.PrintMore Go.Shelf
set_option linter.unusedVariables false
set_option linter.unusedSimpArgs false
shelf_lay LaysM.n171 Nm 171 at Tryd as Tryd.laysItoa
theorem fItoa : Tryd.laysItoa_ren.f 171 = 45 := by kernel_rfl
theorem gPow : Tryd.prog.globalNamed "internal/strconv.uint64pow10" = some 1 := by kernel_rfl
/-- The library's table of powers of ten lies in memory. -/
def PowOnly (w : World) : Prop := Lib.TabIs Tryd.prog w "internal/strconv.uint64pow10" .u64 Lib.pow10Tab
def ordersL : List S63 := [⟨⟨#[99, 111, 110, 115, 116]⟩, ⟨#[82, 75]⟩, 1⟩, ⟨⟨#[109, 111, 118, 101]⟩, ⟨#[82, 82]⟩, 1⟩, ⟨⟨#[115, 104, 105, 102, 116]⟩, ⟨#[82, 82]⟩, 0⟩, ⟨⟨#[99, 108, 101, 97, 114]⟩, ⟨#[82]⟩, 0⟩, ⟨⟨#[110, 101, 119, 98, 111, 120]⟩, ⟨#[82, 82]⟩, 0⟩, ⟨⟨#[103, 101, 116, 98, 111, 120]⟩, ⟨#[82, 82]⟩, 1⟩, ⟨⟨#[115, 101, 116, 98, 111, 120]⟩, ⟨#[82, 82]⟩, 1⟩, ⟨⟨#[103, 101, 116, 117, 112]⟩, ⟨#[82, 85]⟩, 1⟩, ⟨⟨#[115, 101, 116, 117, 112]⟩, ⟨#[85, 82]⟩, 1⟩, ⟨⟨#[103, 101, 116, 103, 108, 111, 98, 97, 108]⟩, ⟨#[82, 75]⟩, 1⟩, ⟨⟨#[115, 101, 116, 103, 108, 111, 98, 97, 108]⟩, ⟨#[75, 82]⟩, 1⟩, ⟨⟨#[105, 110, 100, 101, 120]⟩, ⟨#[82, 82, 82]⟩, 1⟩, ⟨⟨#[115, 101, 116, 105, 110, 100, 101, 120]⟩, ⟨#[82, 82, 82]⟩, 1⟩, ⟨⟨#[109, 97, 107, 101]⟩, ⟨#[82]⟩, 1⟩, ⟨⟨#[110, 111, 116]⟩, ⟨#[82, 82]⟩, 1⟩, ⟨⟨#[110, 101, 103]⟩, ⟨#[82, 82]⟩, 1⟩, ⟨⟨#[108, 101, 110]⟩, ⟨#[82, 82]⟩, 1⟩, ⟨⟨#[97, 100, 100]⟩, ⟨#[82, 82, 82]⟩, 1⟩, ⟨⟨#[115, 117, 98]⟩, ⟨#[82, 82, 82]⟩, 1⟩, ⟨⟨#[109, 117, 108]⟩, ⟨#[82, 82, 82]⟩, 1⟩, ⟨⟨#[100, 105, 118]⟩, ⟨#[82, 82, 82]⟩, 1⟩, ⟨⟨#[109, 111, 100]⟩, ⟨#[82, 82, 82]⟩, 1⟩, ⟨⟨#[99, 111, 110, 99, 97, 116]⟩, ⟨#[82, 82, 82]⟩, 1⟩, ⟨⟨#[101, 113]⟩, ⟨#[82, 82, 82]⟩, 1⟩, ⟨⟨#[110, 101]⟩, ⟨#[82, 82, 82]⟩, 1⟩, ⟨⟨#[108, 116]⟩, ⟨#[82, 82, 82]⟩, 1⟩, ⟨⟨#[108, 101]⟩, ⟨#[82, 82, 82]⟩, 1⟩, ⟨⟨#[103, 116]⟩, ⟨#[82, 82, 82]⟩, 1⟩, ⟨⟨#[103, 101]⟩, ⟨#[82, 82, 82]⟩, 1⟩, ⟨⟨#[106, 117, 109, 112]⟩, ⟨#[79]⟩, 0⟩, ⟨⟨#[106, 117, 109, 112, 105, 102]⟩, ⟨#[82, 79]⟩, 0⟩, ⟨⟨#[106, 117, 109, 112, 110, 111, 116]⟩, ⟨#[82, 79]⟩, 0⟩, ⟨⟨#[99, 97, 108, 108]⟩, ⟨#[82, 78]⟩, 1⟩, ⟨⟨#[114, 101, 116, 117, 114, 110]⟩, ⟨#[82]⟩, 1⟩, ⟨⟨#[101, 110, 100]⟩, ⟨#[]⟩, 0⟩, ⟨⟨#[99, 108, 111, 115, 117, 114, 101]⟩, ⟨#[82, 80]⟩, 1⟩, ⟨⟨#[102, 111, 114, 99, 104, 101, 99, 107]⟩, ⟨#[82, 79]⟩, 1⟩, ⟨⟨#[102, 111, 114, 115, 116, 101, 112]⟩, ⟨#[82, 79]⟩, 1⟩]
/-- The table of orders lies in memory. -/
def TabLaid (w : World) : Prop := ∀ i, i < 38 → w.cell? ⟨0, i * 3, none⟩ = some (.string (ordersL.getD i z63).f0) ∧ w.cell? ⟨0, i * 3 + 1, none⟩ = some (.string (ordersL.getD i z63).f1) ∧ w.cell? ⟨0, i * 3 + 2, none⟩ = some (.int .i64 (ordersL.getD i z63).f2)
def OrdersLaid (w : World) : Prop := PowOnly w ∧ TabLaid w
theorem powBelow {w w' : World} (h : PowOnly w) (hb : Below w.heap.size w w') : PowOnly w' := by
  have hlt := World.block_lt_of_cell? w _ (h.cell gPow 0 (by decide))
  unfold PowOnly Lib.TabIs World.var? at h ⊢
  rw [gPow] at h ⊢
  simp only [Option.bind_some] at h ⊢
  rw [hb.block _ hlt]
  exact h
theorem globBelow {w w' : World} (h : OrdersLaid w) (hb : Below w.heap.size w w') : OrdersLaid w' := ⟨powBelow h.1 hb, fun i hi => ⟨pw_cell_below hb (h.2 i hi).1, pw_cell_below hb (h.2 i hi).2.1, pw_cell_below hb (h.2 i hi).2.2⟩⟩
theorem globDrewN {w : World} (h : OrdersLaid w) (n : Nat) : OrdersLaid (w.drewN n) := h
theorem globDrew {w : World} (h : OrdersLaid w) : OrdersLaid w.drew := h
theorem below_grow (w : World) (n : Nat) (os : Array Obj) : Below w.heap.size w (Go.Sort.grow (w.drewN n) os) := ⟨rfl, rfl, rfl, by
    show w.heap.size ≤ (w.heap ++ os).size
    rw [Array.size_append]; omega, fun k hk => by
    show (w.heap ++ os)[k]? = w.heap[k]?
    exact Array.getElem?_append_left hk⟩
def itoaOf (n : Int) : ByteArray := ⟨(Lib.itoa n).toArray⟩
def strconv_Itoa.f (a0 : Int) : Option ByteArray := if -9223372036854775808 ≤ a0 ∧ a0 ≤ 9223372036854775807 then some (itoaOf a0) else none
theorem strconv_Itoa.calls (a0 : Int) (r : ByteArray) (w : World) (hG : OrdersLaid w) (h : strconv_Itoa.f a0 = some r) :
    Calls Tryd.prog 45 #[.int .i64 a0] w fun e w' => e = .returned (.string r) ∧ Below w.heap.size w w' := by
  unfold strconv_Itoa.f at h
  by_cases hs : -9223372036854775808 ≤ a0 ∧ a0 ≤ 9223372036854775807
  · rw [if_pos hs] at h
    obtain rfl := Option.some.inj h
    have := Any.strconv_Itoa { Tryd.laysItoa with } a0 hs.1 hs.2 w hG.1
    rw [fItoa] at this
    exact this.mono fun e w' ⟨h1, k, os, h2⟩ => ⟨h1, by rw [h2]; exact below_grow w k os⟩
  · rw [if_neg hs] at h
    exact absurd h (by simp)
def prog_of.f (a0 : Int) : Option (ByteArray × ByteArray × Int × Bool) := if 0 ≤ a0 then (if a0 < 38 then some ((ordersL.getD a0.toNat z63).f0, (ordersL.getD a0.toNat z63).f1, (ordersL.getD a0.toNat z63).f2, true) else some (⟨#[110, 111, 110, 101]⟩, ⟨#[]⟩, 0, false)) else some (⟨#[110, 111, 110, 101]⟩, ⟨#[]⟩, 0, false)
set_option maxHeartbeats 800000 in
set_option maxRecDepth 100000 in
theorem prog_of.calls (a0 : Int) (r1 : ByteArray) (r2 : ByteArray) (r3 : Int) (r4 : Bool) (w : World) (hG : OrdersLaid w) (h : prog_of.f a0 = some (r1, r2, r3, r4)) :
    Calls Tryd.prog 36 #[.int .i64 a0] w fun e w' => e = .returned (.tuple #[.agg #[.string r1, .string r2, .int .i64 r3], .bool r4]) ∧ Below w.heap.size w w' := by
  have HB := Aside0.mk (Below.refl w.heap.size w)
  unfold prog_of.f at h
  by_cases h1 : 0 ≤ a0
  · rw [if_pos h1] at h
    have n1 : ¬ a0 < 0 := by omega
    by_cases h2 : a0 < 38
    · rw [if_pos h2] at h
      simp only [Option.some.injEq, Prod.mk.injEq] at h
      have n2 : ¬ 38 ≤ a0 := by omega
      have HT := Aside0.mk (show a0.toNat < 38 by omega)
      obtain ⟨g0, g1, g2⟩ := (globBelow hG ((Below.refl w.heap.size w).alloc (Nat.le_refl _) (.cells #[.string ⟨#[]⟩, .string ⟨#[]⟩, .int .i64 0] 63))).2 a0.toNat HT.out
      rw [h.1] at g0
      rw [h.2.1] at g1
      rw [h.2.2.1] at g2
      obtain ⟨-, -, -, rfl⟩ := h
      have q1 : (0 ≤ a0) = True := eq_true h1
      have q2 : (a0 < 38) = True := eq_true h2
      clear hG
      go_enter Tryd.func36, Tryd.ntmps36
      go_wp2
      refine bodyPost_ret (results_ct rfl _ _ w.heap.size 63 #[.string r1, .string r2, .int .i64 r3] (0, 0) _ (by rfl) (by exact heap_alloc_new w _) (by exact Tryd.underlying63) (by rfl) (by kernel_rfl)) rfl ?_
      exact ⟨rfl, (Below.refl w.heap.size w).alloc (Nat.le_refl _) _⟩
    · rw [if_neg h2] at h
      simp only [Option.some.injEq, Prod.mk.injEq] at h
      obtain ⟨rfl, rfl, rfl, rfl⟩ := h
      have n2 : 38 ≤ a0 := by omega
      clear hG h2
      go_enter Tryd.func36, Tryd.ntmps36
      go_wp2
      refine bodyPost_ret (results_ct rfl _ _ w.heap.size 63 #[.string ⟨#[110, 111, 110, 101]⟩, .string ⟨#[]⟩, .int .i64 0] (0, 0) _ (by rfl) (by exact heap_alloc_new w _) (by exact Tryd.underlying63) (by rfl) (by kernel_rfl)) rfl ?_
      exact ⟨rfl, (Below.refl w.heap.size w).alloc (Nat.le_refl _) _⟩
  · rw [if_neg h1] at h
    simp only [Option.some.injEq, Prod.mk.injEq] at h
    obtain ⟨rfl, rfl, rfl, rfl⟩ := h
    have n1 : a0 < 0 := by omega
    clear hG h1
    go_enter Tryd.func36, Tryd.ntmps36
    go_wp2
    refine bodyPost_ret (results_ct rfl _ _ w.heap.size 63 #[.string ⟨#[110, 111, 110, 101]⟩, .string ⟨#[]⟩, .int .i64 0] (0, 0) _ (by rfl) (by exact heap_alloc_new w _) (by exact Tryd.underlying63) (by rfl) (by kernel_rfl)) rfl ?_
    exact ⟨rfl, (Below.refl w.heap.size w).alloc (Nat.le_refl _) _⟩
end Go.Proofs.YtlhnkfheojlghaaDoor.Pr
