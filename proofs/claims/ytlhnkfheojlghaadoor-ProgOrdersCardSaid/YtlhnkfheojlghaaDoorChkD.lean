/- prog.can: a contract of its call. -/
import Derived.Test.YtlhnkfheojlghaaDoorChkC
namespace Go.Proofs.YtlhnkfheojlghaaDoor.Pr
open Go.RowKit Go.Proofs.YtlhnkfheojlghaaDoorW.PrintWords Go.Proofs.YtlhnkfheojlghaaDoorW.PrintLast Go.Proofs.YtlhnkfheojlghaaDoorW.PrintMore
attribute [local go_sem] max2_int min2_int max_two min_two max_three min_three max_four min_four
set_option linter.unusedVariables false
set_option linter.unusedSimpArgs false
theorem uses_small (op : Int) : (usesM op).size ≤ 3 := by
  unfold usesM
  generalize op.toNat = n
  by_cases h : n < 38
  · have hall : ∀ m, m < 38 → (ordersL.getD m z63).f1.size ≤ 3 := by decide
    exact hall n h
  · rw [List.getD_eq_getElem?_getD, List.getElem?_eq_none (by simp [ordersL]; omega)]
    decide
/-- What a call of prog.can has in its own boxes. -/
structure CanIs (W : World) (pb ib ob xb : Nat) (f1 : Int) (A2 : Option Addr) (n2 c2 : Nat) (A3 : Option Addr) (n3 c3 : Nat) (A4 : Option Addr) (n4 c4 : Nat) (A5 : Option Addr) (n5 c5 : Nat) (i : S36) (u : ByteArray) : Prop where
  p1 : W.cell? ⟨pb, 1, none⟩ = some (.int .i64 f1)
  p2 : W.cell? ⟨pb, 2, none⟩ = some (.slice A2 n2 c2)
  p3 : W.cell? ⟨pb, 3, none⟩ = some (.slice A3 n3 c3)
  p4 : W.cell? ⟨pb, 4, none⟩ = some (.slice A4 n4 c4)
  p5 : W.cell? ⟨pb, 5, none⟩ = some (.slice A5 n5 c5)
  i0 : W.cell? ⟨ib, 0, none⟩ = some (.int .i64 i.f0)
  i1 : W.cell? ⟨ib, 1, none⟩ = some (.int .i64 i.f1)
  o1 : W.cell? ⟨ob, 1, none⟩ = some (.string u)
  x : ∀ k, k < 3 → W.cell? ⟨xb, k, none⟩ = some (.int .i64 (operM i k))
theorem CanIs.below {W W' : World} {pb ib ob xb : Nat} {f1 : Int} {A2 : Option Addr} {n2 c2 : Nat} {A3 : Option Addr} {n3 c3 : Nat} {A4 : Option Addr} {n4 c4 : Nat} {A5 : Option Addr} {n5 c5 : Nat} {i : S36} {u : ByteArray} (h : CanIs W pb ib ob xb f1 A2 n2 c2 A3 n3 c3 A4 n4 c4 A5 n5 c5 i u) (hb : Below W.heap.size W W') : CanIs W' pb ib ob xb f1 A2 n2 c2 A3 n3 c3 A4 n4 c4 A5 n5 c5 i u :=
  ⟨pw_cell_below hb h.p1, pw_cell_below hb h.p2, pw_cell_below hb h.p3, pw_cell_below hb h.p4, pw_cell_below hb h.p5, pw_cell_below hb h.i0, pw_cell_below hb h.i1, pw_cell_below hb h.o1, fun k hk => pw_cell_below hb (h.x k hk)⟩
theorem row_at {w : World} {b : Nat} {cs : Array Value} {t : TypeId} (h : w.heap[b]? = some (.cells cs t (0, 0))) (k : Nat) (v : Value) (hv : cs[k]? = some v) : w.cell? ⟨b, k, none⟩ = some v := by
  rw [cell_of_row w b k _ _ _ h]; exact hv
theorem all_range {n k : Nat} {p : Nat → Bool} (h : ∀ j, j < k → p j = true) (hk : k = n) : (List.range n).all p = true := by
  rw [List.all_eq_true]; intro j hj; exact h j (by rw [hk]; exact List.mem_range.1 hj)
theorem all_range_not {n k : Nat} {p : Nat → Bool} (hk : k < n) (h : p k = false) : (List.range n).all p = false := by
  rw [List.all_eq_false]; exact ⟨k, List.mem_range.2 hk, by rw [h]; simp⟩
set_option maxRecDepth 100000 in
set_option maxHeartbeats 4000000 in
theorem can_calls (w : World) (hG : OrdersLaid w) (p : S27) (A2 : Option Addr) (c2 : Nat) (A3 : Option Addr) (c3 : Nat) (A4 : Option Addr) (c4 : Nat) (A5 : Option Addr) (c5 : Nat) (i : S36)
    (h2 : p.f2.length ≤ 9223372036854775807) (h3 : p.f3.length ≤ 9223372036854775807) (h4 : p.f4.length ≤ 9223372036854775807) (h5 : p.f5.length ≤ 9223372036854775807) :
    Calls Tryd.prog 68 #[.agg #[.int .i64 p.f0, .int .i64 p.f1, .slice A2 p.f2.length c2, .slice A3 p.f3.length c3, .slice A4 p.f4.length c4, .slice A5 p.f5.length c5], .agg #[.int .i64 i.f0, .int .i64 i.f1, .int .i64 i.f2, .int .i64 i.f3]] w fun e w' => e = .returned (.bool (canM p i)) ∧ Below w.heap.size w w' := by
  obtain ⟨W1, hW1⟩ : ∃ W1, W1 = (w.alloc (.cells #[.int .i64 p.f0, .int .i64 p.f1, .slice A2 p.f2.length c2, .slice A3 p.f3.length c3, .slice A4 p.f4.length c4, .slice A5 p.f5.length c5] 27)).alloc (.cells #[.int .i64 i.f0, .int .i64 i.f1, .int .i64 i.f2, .int .i64 i.f3] 36) := ⟨_, rfl⟩
  have hs1 : W1.heap.size = w.heap.size + 2 := by rw [hW1]; simp
  have B1 : Aside0 (Below w.heap.size w W1) := ⟨by rw [hW1]; exact ((Below.refl w.heap.size w).alloc (Nat.le_refl _) _).alloc (by simp) _⟩
  have PB : W1.heap[w.heap.size]? = some (.cells #[.int .i64 p.f0, .int .i64 p.f1, .slice A2 p.f2.length c2, .slice A3 p.f3.length c3, .slice A4 p.f4.length c4, .slice A5 p.f5.length c5] 27 (0, 0)) := by
    rw [hW1, Below.heap_alloc _ _ _ (by simp)]; exact heap_alloc_new w _
  have IB : W1.heap[w.heap.size + 1]? = some (.cells #[.int .i64 i.f0, .int .i64 i.f1, .int .i64 i.f2, .int .i64 i.f3] 36 (0, 0)) := by
    have h := heap_alloc_new (w.alloc (.cells #[.int .i64 p.f0, .int .i64 p.f1, .slice A2 p.f2.length c2, .slice A3 p.f3.length c3, .slice A4 p.f4.length c4, .slice A5 p.f5.length c5] 27)) (.cells #[.int .i64 i.f0, .int .i64 i.f1, .int .i64 i.f2, .int .i64 i.f3] 36)
    rw [← hW1, show (w.alloc (.cells #[.int .i64 p.f0, .int .i64 p.f1, .slice A2 p.f2.length c2, .slice A3 p.f3.length c3, .slice A4 p.f4.length c4, .slice A5 p.f5.length c5] 27)).heap.size = w.heap.size + 1 by simp] at h
    exact h
  have i0 := row_at IB 0 (.int .i64 i.f0) rfl
  have HG := Aside0.mk (globBelow hG B1.out)
  have PBA := Aside0.mk PB
  have IBA := Aside0.mk IB
  clear hG PB IB
  by_cases hop : 0 ≤ i.f0 ∧ i.f0 < 38
  · have hof : prog_of.f i.f0 = some ((ordersL.getD i.f0.toNat z63).f0, usesM i.f0, (ordersL.getD i.f0.toNat z63).f2, true) := by
      unfold prog_of.f; rw [if_pos hop.1, if_pos hop.2]; rfl
    have HOF := Aside0.mk hof
    clear hof
    have HM : Aside0 (canM p i = ((List.range (usesM i.f0).size).all (operOk p i (usesM i.f0)) && ((i.f0 != 36 && i.f0 != 37) || decide (i.f1 < wrap64 (p.f1 - 2))))) := ⟨by unfold canM isM; rw [decide_eq_true hop.1, decide_eq_true hop.2]; rfl⟩
    obtain ⟨nm, hnm⟩ : ∃ nm, nm = (ordersL.getD i.f0.toNat z63).f0 := ⟨_, rfl⟩
    obtain ⟨ct, hct⟩ : ∃ ct, ct = (ordersL.getD i.f0.toNat z63).f2 := ⟨_, rfl⟩
    obtain ⟨u, hu⟩ : ∃ u, u = usesM i.f0 := ⟨_, rfl⟩
    have hu3 : u.size ≤ 3 := by rw [hu]; exact uses_small _
    rw [← hnm, ← hct, ← hu] at HOF
    rw [← hu] at HM
    clear hnm hct hu hop
    go_enter Tryd.func68, Tryd.ntmps68
    go_wp2_with fail
    rw [← hW1]
    clear hW1
    go_wp2_with (first
      | (go_at_call 36; refine (prog_of.calls _ _ _ _ _ _ HG.out HOF.out).mono ?_; rintro e w2 ⟨rfl, hb2⟩; have B2 := Aside0.mk hb2; have hs2 : W1.heap.size ≤ w2.heap.size := hb2.size; have PB2 := Aside0.mk ((hb2.block w.heap.size (by omega)).trans PBA.out); have IB2 := Aside0.mk ((hb2.block (w.heap.size + 1) (by omega)).trans IBA.out); clear hb2; have B3 := Aside0.mk ((Below.refl w2.heap.size w2).alloc (Nat.le_refl _) (.cells #[.string nm, .string u, .int .i64 ct] 63)); have PB3 := Aside0.mk ((B3.out.block w.heap.size (by omega)).trans PB2.out); have IB3 := Aside0.mk ((B3.out.block (w.heap.size + 1) (by omega)).trans IB2.out); have OB3 := Aside0.mk (heap_alloc_new w2 (.cells #[.string nm, .string u, .int .i64 ct] 63)); have m0 : w2.cell? ⟨w.heap.size + 1, 0, none⟩ = some (.int .i64 i.f0) := row_at (IB2.out) 0 _ rfl; have m1 : w2.cell? ⟨w.heap.size + 1, 1, none⟩ = some (.int .i64 i.f1) := row_at (IB2.out) 1 _ rfl; have m2 : w2.cell? ⟨w.heap.size + 1, 2, none⟩ = some (.int .i64 i.f2) := row_at (IB2.out) 2 _ rfl; have m3 : w2.cell? ⟨w.heap.size + 1, 3, none⟩ = some (.int .i64 i.f3) := row_at (IB2.out) 3 _ rfl; have n0 : (w2.alloc (.cells #[.string nm, .string u, .int .i64 ct] 63)).cell? ⟨w.heap.size + 1, 0, none⟩ = some (.int .i64 i.f0) := row_at (IB3.out) 0 _ rfl; have n1 : (w2.alloc (.cells #[.string nm, .string u, .int .i64 ct] 63)).cell? ⟨w.heap.size + 1, 1, none⟩ = some (.int .i64 i.f1) := row_at (IB3.out) 1 _ rfl; have n2 : (w2.alloc (.cells #[.string nm, .string u, .int .i64 ct] 63)).cell? ⟨w.heap.size + 1, 2, none⟩ = some (.int .i64 i.f2) := row_at (IB3.out) 2 _ rfl; have n3 : (w2.alloc (.cells #[.string nm, .string u, .int .i64 ct] 63)).cell? ⟨w.heap.size + 1, 3, none⟩ = some (.int .i64 i.f3) := row_at (IB3.out) 3 _ rfl)
      | (go_at_call 46; obtain ⟨W3, hW3⟩ : ∃ W3, W3 = w2.alloc (.cells #[.string nm, .string u, .int .i64 ct] 63) := ⟨_, rfl⟩; rw [← hW3] at B3 PB3 IB3 OB3 ⊢; have hs3 : W3.heap.size = w2.heap.size + 1 := (by rw [hW3]; simp); clear hW3 m0 m1 m2 m3 n0 n1 n2 n3; refine (operands_calls _ i).mono ?_; rintro e w3 ⟨rfl, hb3⟩; have B4 := Aside0.mk (hb3.alloc hb3.size (.cells #[.int .i64 i.f1, .int .i64 i.f2, .int .i64 i.f3] 82)); have PB4 := Aside0.mk ((B4.out.block w.heap.size (by omega)).trans PB3.out); have IB4 := Aside0.mk ((B4.out.block (w.heap.size + 1) (by omega)).trans IB3.out); have OB4 := Aside0.mk ((B4.out.block w2.heap.size (by omega)).trans OB3.out); have XB4 := Aside0.mk (heap_alloc_new w3 (.cells #[.int .i64 i.f1, .int .i64 i.f2, .int .i64 i.f3] 82)); clear hb3; have o4 := row_at OB4.out 1 (.string u) rfl))
    obtain ⟨W4, hW4⟩ : ∃ W4, W4 = w3.alloc (.cells #[.int .i64 i.f1, .int .i64 i.f2, .int .i64 i.f3] 82) := ⟨_, rfl⟩
    rw [← hW4] at B4 PB4 IB4 OB4 XB4 o4 ⊢
    clear hW4
    have BB := Aside0.mk (below_step B1.out (below_step B2.out (below_step B3.out B4.out)))
    have hx : Aside0 (∀ k, k < 3 → W4.cell? ⟨w3.heap.size, k, none⟩ = some (.int .i64 (operM i k))) := ⟨fun k hk => by
      match k, hk with
      | 0, _ => exact row_at XB4.out 0 _ rfl
      | 1, _ => exact row_at XB4.out 1 _ rfl
      | 2, _ => exact row_at XB4.out 2 _ rfl⟩
    have p1 := row_at PB4.out 1 (.int .i64 p.f1) rfl
    have p2 := row_at PB4.out 2 (.slice A2 p.f2.length c2) rfl
    have p3 := row_at PB4.out 3 (.slice A3 p.f3.length c3) rfl
    have p4 := row_at PB4.out 4 (.slice A4 p.f4.length c4) rfl
    have p5 := row_at PB4.out 5 (.slice A5 p.f5.length c5) rfl
    have q0 := row_at IB4.out 0 (.int .i64 i.f0) rfl
    have q1 := row_at IB4.out 1 (.int .i64 i.f1) rfl
    clear i0
    go_loopw [8, 9, 23] (fun _ _ s wr => ∃ (k : Nat), s = .int .i64 k ∧ k ≤ u.size ∧ wr = W4 ∧ Aside0 (∀ j, j < k → operOk p i u j = true)) (fun _ _ s _ => u.size - (intOf s).toNat)
    case atStart => exact ⟨0, rfl, Nat.zero_le _, rfl, ⟨fun j hj => absurd hj (Nat.not_lt_zero _)⟩⟩
    case round =>
      obtain ⟨k, rfl, hk, rfl, hN⟩ := hrel
      by_cases hlt : k < u.size
      · have i1 : (k : Int) < (u.size : Int) := by omega
        have d1 : decide ((k : Int) < (u.size : Int)) = true := decide_eq_true i1
        have hbt : ((u[k]'hlt).toNat : Int) = bt u (k : Int) := bt_at u (k : Int) (by simpa using hlt)
        have z1 : (0 ≤ (k : Int)) = True := eq_true (by omega)
        have z2 : ((k : Int) < (u.size : Int)) = True := eq_true i1
        have z3 : ((k : Int) < 3) = True := eq_true (by omega)
        have xk := hx.out k (by omega)
        have hcr := Aside0.mk (bt_range u (k : Int))
        have HO := Aside0.mk (show operOk p i u k = (decide (0 ≤ operM i k) && decide (operM i k < mostM p i (bt u (k : Int)))) from rfl)
        generalize operM i k = x at xk HO
        generalize bt u (k : Int) = c at hbt HO hcr
        clear i1
        by_cases h82 : c = 82
        · have e82 : (c == 82) = true := beq_iff_eq.mpr h82
          have HMO : Aside0 (mostM p i c = p.f1) := ⟨by unfold mostM; simp [h82]⟩
          rw [HMO.out] at HO
          clear HMO
          by_cases hx0 : x < 0
          · have dx0 : decide (x < 0) = true := decide_eq_true hx0
            go_wp2_with fail
            go_ret
            exact ⟨by rw [HM.out, all_range_not hlt (by rw [HO.out, decide_eq_false (by omega)]; rfl)]; rfl, BB.out⟩
          · have dx0 : decide (x < 0) = false := decide_eq_false hx0
            by_cases hx1 : p.f1 ≤ x
            · have dx1 : decide (p.f1 ≤ x) = true := decide_eq_true hx1
              go_wp2_with fail
              go_ret
              exact ⟨by rw [HM.out, all_range_not hlt (by rw [HO.out, decide_eq_false (show ¬ x < p.f1 by omega), Bool.and_false])]; rfl, BB.out⟩
            · have dx1 : decide (p.f1 ≤ x) = false := decide_eq_false hx1
              go_wp2_with fail
              go_round
              case rel => exact ⟨k + 1, by go_num, by omega, (by first | rfl | trivial), ⟨fun j hj => by
                by_cases e : j = k
                · subst e; rw [HO.out, decide_eq_true (by omega), decide_eq_true (show x < p.f1 by omega)]; rfl
                · exact hN.out j (by omega)⟩⟩
              case measure => simp [intOf]; omega
        · have e82 : (c == 82) = false := beq_eq_false_iff_ne.mpr h82
          by_cases h75 : c = 75
          · have e75 : (c == 75) = true := beq_iff_eq.mpr h75
            have HMO : Aside0 (mostM p i c = (p.f4.length : Int)) := ⟨by unfold mostM; simp [h82, h75]⟩
            rw [HMO.out] at HO
            clear HMO
            by_cases hx0 : x < 0
            · have dx0 : decide (x < 0) = true := decide_eq_true hx0
              go_wp2_with fail
              go_ret
              exact ⟨by rw [HM.out, all_range_not hlt (by rw [HO.out, decide_eq_false (by omega)]; rfl)]; rfl, BB.out⟩
            · have dx0 : decide (x < 0) = false := decide_eq_false hx0
              by_cases hx1 : (p.f4.length : Int) ≤ x
              · have dx1 : decide ((p.f4.length : Int) ≤ x) = true := decide_eq_true hx1
                go_wp2_with fail
                go_ret
                exact ⟨by rw [HM.out, all_range_not hlt (by rw [HO.out, decide_eq_false (show ¬ x < (p.f4.length : Int) by omega), Bool.and_false])]; rfl, BB.out⟩
              · have dx1 : decide ((p.f4.length : Int) ≤ x) = false := decide_eq_false hx1
                go_wp2_with fail
                go_round
                case rel => exact ⟨k + 1, by go_num, by omega, (by first | rfl | trivial), ⟨fun j hj => by
                  by_cases e : j = k
                  · subst e; rw [HO.out, decide_eq_true (by omega), decide_eq_true (show x < (p.f4.length : Int) by omega)]; rfl
                  · exact hN.out j (by omega)⟩⟩
                case measure => simp [intOf]; omega
          · have e75 : (c == 75) = false := beq_eq_false_iff_ne.mpr h75
            by_cases h85 : c = 85
            · have e85 : (c == 85) = true := beq_iff_eq.mpr h85
              have HMO : Aside0 (mostM p i c = (p.f2.length : Int)) := ⟨by unfold mostM; simp [h82, h75, h85]⟩
              rw [HMO.out] at HO
              clear HMO
              by_cases hx0 : x < 0
              · have dx0 : decide (x < 0) = true := decide_eq_true hx0
                go_wp2_with fail
                go_ret
                exact ⟨by rw [HM.out, all_range_not hlt (by rw [HO.out, decide_eq_false (by omega)]; rfl)]; rfl, BB.out⟩
              · have dx0 : decide (x < 0) = false := decide_eq_false hx0
                by_cases hx1 : (p.f2.length : Int) ≤ x
                · have dx1 : decide ((p.f2.length : Int) ≤ x) = true := decide_eq_true hx1
                  go_wp2_with fail
                  go_ret
                  exact ⟨by rw [HM.out, all_range_not hlt (by rw [HO.out, decide_eq_false (show ¬ x < (p.f2.length : Int) by omega), Bool.and_false])]; rfl, BB.out⟩
                · have dx1 : decide ((p.f2.length : Int) ≤ x) = false := decide_eq_false hx1
                  go_wp2_with fail
                  go_round
                  case rel => exact ⟨k + 1, by go_num, by omega, (by first | rfl | trivial), ⟨fun j hj => by
                    by_cases e : j = k
                    · subst e; rw [HO.out, decide_eq_true (by omega), decide_eq_true (show x < (p.f2.length : Int) by omega)]; rfl
                    · exact hN.out j (by omega)⟩⟩
                  case measure => simp [intOf]; omega
            · have e85 : (c == 85) = false := beq_eq_false_iff_ne.mpr h85
              by_cases h80 : c = 80
              · have e80 : (c == 80) = true := beq_iff_eq.mpr h80
                have HMO : Aside0 (mostM p i c = (p.f5.length : Int)) := ⟨by unfold mostM; simp [h82, h75, h85, h80]⟩
                rw [HMO.out] at HO
                clear HMO
                by_cases hx0 : x < 0
                · have dx0 : decide (x < 0) = true := decide_eq_true hx0
                  go_wp2_with fail
                  go_ret
                  exact ⟨by rw [HM.out, all_range_not hlt (by rw [HO.out, decide_eq_false (by omega)]; rfl)]; rfl, BB.out⟩
                · have dx0 : decide (x < 0) = false := decide_eq_false hx0
                  by_cases hx1 : (p.f5.length : Int) ≤ x
                  · have dx1 : decide ((p.f5.length : Int) ≤ x) = true := decide_eq_true hx1
                    go_wp2_with fail
                    go_ret
                    exact ⟨by rw [HM.out, all_range_not hlt (by rw [HO.out, decide_eq_false (show ¬ x < (p.f5.length : Int) by omega), Bool.and_false])]; rfl, BB.out⟩
                  · have dx1 : decide ((p.f5.length : Int) ≤ x) = false := decide_eq_false hx1
                    go_wp2_with fail
                    go_round
                    case rel => exact ⟨k + 1, by go_num, by omega, (by first | rfl | trivial), ⟨fun j hj => by
                      by_cases e : j = k
                      · subst e; rw [HO.out, decide_eq_true (by omega), decide_eq_true (show x < (p.f5.length : Int) by omega)]; rfl
                      · exact hN.out j (by omega)⟩⟩
                    case measure => simp [intOf]; omega
              · have e80 : (c == 80) = false := beq_eq_false_iff_ne.mpr h80
                by_cases h79 : c = 79
                · have e79 : (c == 79) = true := beq_iff_eq.mpr h79
                  have HMO : Aside0 (mostM p i c = (p.f3.length : Int)) := ⟨by unfold mostM; simp [h82, h75, h85, h80, h79]⟩
                  rw [HMO.out] at HO
                  clear HMO
                  by_cases hx0 : x < 0
                  · have dx0 : decide (x < 0) = true := decide_eq_true hx0
                    go_wp2_with fail
                    go_ret
                    exact ⟨by rw [HM.out, all_range_not hlt (by rw [HO.out, decide_eq_false (by omega)]; rfl)]; rfl, BB.out⟩
                  · have dx0 : decide (x < 0) = false := decide_eq_false hx0
                    by_cases hx1 : (p.f3.length : Int) ≤ x
                    · have dx1 : decide ((p.f3.length : Int) ≤ x) = true := decide_eq_true hx1
                      go_wp2_with fail
                      go_ret
                      exact ⟨by rw [HM.out, all_range_not hlt (by rw [HO.out, decide_eq_false (show ¬ x < (p.f3.length : Int) by omega), Bool.and_false])]; rfl, BB.out⟩
                    · have dx1 : decide ((p.f3.length : Int) ≤ x) = false := decide_eq_false hx1
                      go_wp2_with fail
                      go_round
                      case rel => exact ⟨k + 1, by go_num, by omega, (by first | rfl | trivial), ⟨fun j hj => by
                        by_cases e : j = k
                        · subst e; rw [HO.out, decide_eq_true (by omega), decide_eq_true (show x < (p.f3.length : Int) by omega)]; rfl
                        · exact hN.out j (by omega)⟩⟩
                      case measure => simp [intOf]; omega
                · have e79 : (c == 79) = false := beq_eq_false_iff_ne.mpr h79
                  by_cases h78 : c = 78
                  · have e78 : (c == 78) = true := beq_iff_eq.mpr h78
                    by_cases hm : 31 ≤ wrap64 (p.f1 - i.f1)
                    · have dm : ¬ wrap64 (p.f1 - i.f1) < 31 := by omega
                      have HMO : Aside0 (mostM p i c = 31) := ⟨by unfold mostM; simp [h82, h75, h85, h80, h79, h78]; omega⟩
                      rw [HMO.out] at HO
                      clear HMO
                      by_cases hx0 : x < 0
                      · have dx0 : decide (x < 0) = true := decide_eq_true hx0
                        go_wp2_with fail
                        go_ret
                        exact ⟨by rw [HM.out, all_range_not hlt (by rw [HO.out, decide_eq_false (by omega)]; rfl)]; rfl, BB.out⟩
                      · have dx0 : decide (x < 0) = false := decide_eq_false hx0
                        by_cases hx1 : 31 ≤ x
                        · have dx1 : decide (31 ≤ x) = true := decide_eq_true hx1
                          go_wp2_with fail
                          go_ret
                          exact ⟨by rw [HM.out, all_range_not hlt (by rw [HO.out, decide_eq_false (show ¬ x < 31 by omega), Bool.and_false])]; rfl, BB.out⟩
                        · have dx1 : decide (31 ≤ x) = false := decide_eq_false hx1
                          go_wp2_with fail
                          go_round
                          case rel => exact ⟨k + 1, by go_num, by omega, (by first | rfl | trivial), ⟨fun j hj => by
                            by_cases e : j = k
                            · subst e; rw [HO.out, decide_eq_true (by omega), decide_eq_true (show x < 31 by omega)]; rfl
                            · exact hN.out j (by omega)⟩⟩
                          case measure => simp [intOf]; omega
                    · have dm : wrap64 (p.f1 - i.f1) < 31 := by omega
                      have HMO : Aside0 (mostM p i c = (wrap64 (p.f1 - i.f1))) := ⟨by unfold mostM; simp [h82, h75, h85, h80, h79, h78]; omega⟩
                      rw [HMO.out] at HO
                      clear HMO
                      by_cases hx0 : x < 0
                      · have dx0 : decide (x < 0) = true := decide_eq_true hx0
                        go_wp2_with fail
                        go_ret
                        exact ⟨by rw [HM.out, all_range_not hlt (by rw [HO.out, decide_eq_false (by omega)]; rfl)]; rfl, BB.out⟩
                      · have dx0 : decide (x < 0) = false := decide_eq_false hx0
                        by_cases hx1 : (wrap64 (p.f1 - i.f1)) ≤ x
                        · have dx1 : decide ((wrap64 (p.f1 - i.f1)) ≤ x) = true := decide_eq_true hx1
                          go_wp2_with fail
                          go_ret
                          exact ⟨by rw [HM.out, all_range_not hlt (by rw [HO.out, decide_eq_false (show ¬ x < (wrap64 (p.f1 - i.f1)) by omega), Bool.and_false])]; rfl, BB.out⟩
                        · have dx1 : decide ((wrap64 (p.f1 - i.f1)) ≤ x) = false := decide_eq_false hx1
                          go_wp2_with fail
                          go_round
                          case rel => exact ⟨k + 1, by go_num, by omega, (by first | rfl | trivial), ⟨fun j hj => by
                            by_cases e : j = k
                            · subst e; rw [HO.out, decide_eq_true (by omega), decide_eq_true (show x < (wrap64 (p.f1 - i.f1)) by omega)]; rfl
                            · exact hN.out j (by omega)⟩⟩
                          case measure => simp [intOf]; omega
                  · have e78 : (c == 78) = false := beq_eq_false_iff_ne.mpr h78
                    have HMO : Aside0 (mostM p i c = 0) := ⟨by unfold mostM; simp [h82, h75, h85, h80, h79, h78]⟩
                    rw [HMO.out] at HO
                    clear HMO
                    by_cases hx0 : x < 0
                    · have dx0 : decide (x < 0) = true := decide_eq_true hx0
                      go_wp2_with fail
                      go_ret
                      exact ⟨by rw [HM.out, all_range_not hlt (by rw [HO.out, decide_eq_false (by omega)]; rfl)]; rfl, BB.out⟩
                    · have dx0 : decide (x < 0) = false := decide_eq_false hx0
                      by_cases hx1 : 0 ≤ x
                      · have dx1 : decide (0 ≤ x) = true := decide_eq_true hx1
                        go_wp2_with fail
                        go_ret
                        exact ⟨by rw [HM.out, all_range_not hlt (by rw [HO.out, decide_eq_false (show ¬ x < 0 by omega), Bool.and_false])]; rfl, BB.out⟩
                      · exact absurd hx1 (by omega)
      · obtain rfl : k = u.size := by omega
        have i1 : ¬ (u.size : Int) < (u.size : Int) := by omega
        have HA := Aside0.mk (all_range (n := u.size) hN.out rfl)
        rw [HA.out] at HM
        by_cases h6 : i.f0 = 36
        · have e6 : (i.f0 != 36) = false := bne_eq_false_iff_eq.mpr h6
          rw [e6] at HM
          go_wp2_with fail
          go_ret
          exact ⟨by rw [HM.out]; simp, BB.out⟩
        · have e6 : (i.f0 != 36) = true := bne_iff_ne.mpr h6
          rw [e6] at HM
          by_cases h7 : i.f0 = 37
          · have e7 : (i.f0 != 37) = false := bne_eq_false_iff_eq.mpr h7
            rw [e7] at HM
            go_wp2_with fail
            go_ret
            exact ⟨by rw [HM.out]; simp, BB.out⟩
          · have e7 : (i.f0 != 37) = true := bne_iff_ne.mpr h7
            rw [e7] at HM
            go_wp2_with fail
            go_ret
            exact ⟨by rw [HM.out]; simp, BB.out⟩
  · have hof : prog_of.f i.f0 = some (⟨#[110, 111, 110, 101]⟩, ⟨#[]⟩, 0, false) := by
      unfold prog_of.f
      by_cases h0 : 0 ≤ i.f0
      · rw [if_pos h0, if_neg (by omega)]
      · rw [if_neg h0]
    have HOF := Aside0.mk hof
    have HM : Aside0 (canM p i = false) := ⟨by
      unfold canM isM
      by_cases h0 : 0 ≤ i.f0
      · rw [decide_eq_false (show ¬ i.f0 < 38 by omega)]; simp
      · rw [decide_eq_false h0]; simp⟩
    clear hof hop
    go_enter Tryd.func68, Tryd.ntmps68
    go_wp2_with fail
    rw [← hW1]
    clear hW1
    go_wp2_with (go_at_call 36; refine (prog_of.calls _ _ _ _ _ _ HG.out HOF.out).mono ?_; rintro e w2 ⟨rfl, hb2⟩; have B2 := Aside0.mk hb2; clear hb2)
    go_ret
    exact ⟨by rw [HM.out]; rfl, (below_step B1.out B2.out).trans (((Below.refl w2.heap.size w2).alloc (Nat.le_refl _) _).mono (by have := B1.out.size; have := B2.out.size; omega))⟩
end Go.Proofs.YtlhnkfheojlghaaDoor.Pr
