/- The checker's closures and slices.ContainsFunc over them: contracts of their calls. -/
import Derived.Test.YtlhnkfheojlghaaDoorChkM
import Derived.Test.YtlhnkfheojlghaaDoorPrF
namespace Go.Proofs.YtlhnkfheojlghaaDoor.Pr
open Go.RowKit Go.Proofs.YtlhnkfheojlghaaDoorW.PrintWords Go.Proofs.YtlhnkfheojlghaaDoorW.PrintLast Go.Proofs.YtlhnkfheojlghaaDoorW.PrintMore
set_option linter.unusedVariables false
set_option linter.unusedSimpArgs false
theorem bad_f (v : S98) (h : wordV v) : prog_checker_function_1.f 1 v.f0 v.f1 v.f2 v.f3 = some (badC v) := by
  unfold prog_checker_function_1.f badC sameV
  rw [normal_f v h]
  by_cases h4 : 4 < v.f0
  · rw [if_pos (show v.f0 > 4 from h4), decide_eq_true h4]
    rfl
  · rw [if_neg (show ¬ v.f0 > 4 from h4), decide_eq_false h4]
    simp only [Option.bind_some, Bool.false_or, Bool.not_and]
theorem bad_calls (v : S98) (h : wordV v) (w : World) : Calls Tryd.prog 64 #[.agg #[.int .i64 v.f0, .int .u64 v.f1, .string v.f2, .int .i64 v.f3]] w fun e w' => e = .returned (.bool (badC v)) ∧ Below w.heap.size w w' :=
  prog_checker_function_1.calls 1 _ _ _ _ _ _ (bad_f v h)
/-- slices.IndexFunc over the constants. -/
def idxM {α : Type} (p : α → Bool) : List α → Nat → Int
  | [], _ => -1
  | x :: l, k => if p x = true then (k : Int) else idxM p l (k + 1)
theorem idxM_any {α : Type} (p : α → Bool) : ∀ (l : List α) (k : Nat), decide (0 ≤ idxM p l k) = l.any p
  | [], k => by simp [idxM]
  | x :: l, k => by
    unfold idxM
    by_cases h : p x = true
    · rw [if_pos h, List.any_cons, h]; simp
    · rw [if_neg h, idxM_any p l (k + 1), List.any_cons]; simp [h]
theorem idxM_drop {α : Type} (p : α → Bool) (l : List α) (k : Nat) (hk : k < l.length) : idxM p (l.drop k) k = if p l[k] = true then (k : Int) else idxM p (l.drop (k + 1)) (k + 1) := by
  rw [List.drop_eq_getElem_cons hk]
  rfl
set_option maxRecDepth 100000 in
set_option maxHeartbeats 1000000 in
theorem indexV_calls (w0 w : World) (hb : Below w0.heap.size w0 w) (A : Option Addr) (c : Nat) (l : List S98) (hC : Kd.C k98 w0 A l.length l) (p : S98 → Bool) (g : Nat) (lb : Array Value) (eg : ∀ args W, (callFunc g args).run Tryd.prog W = .ok (.enter g args) W)
    (hp : ∀ x ∈ l, ∀ W, Below w.heap.size w W → Calls Tryd.prog g (#[.agg #[.int .i64 x.f0, .int .u64 x.f1, .string x.f2, .int .i64 x.f3]] ++ lb) W fun e w' => e = .returned (.bool (p x)) ∧ Below W.heap.size W w') :
    Calls Tryd.prog 75 #[.slice A l.length c, .func (.func g) #[] lb] w fun e w' => e = .returned (.int .i64 (idxM p l 0)) ∧ Below w.heap.size w w' := by
  have HC := Aside0.mk hC
  have HB := Aside0.mk hb
  have HP := Aside0.mk hp
  have hlen : (l.length : Int) ≤ 9223372036854775807 := by have := hC.2.1; omega
  clear hC hb hp
  go_enter Tryd.func75, Tryd.ntmps75
  go_wp2_with fail
  have B0 := Aside0.mk (Below.refl w.heap.size w)
  have N0 := Aside0.mk (Eq.refl (idxM p l 0))
  go_loopw [5, 8] (fun _ i wr => ∃ (k : Nat), i = .int .i64 k ∧ k ≤ l.length ∧ Aside0 (Below w.heap.size w wr) ∧ Aside0 (idxM p l 0 = idxM p (l.drop k) k)) (fun _ i _ => l.length - (intOf i).toNat)
  case atStart => exact ⟨0, rfl, Nat.zero_le _, B0, ⟨by rw [List.drop_zero]⟩⟩
  case round =>
    obtain ⟨k, rfl, hk, hB, hN⟩ := hrel
    by_cases hlt : k < l.length
    · have i1 : (k : Int) < (l.length : Int) := by omega
      have hrow := Kd.C_below HC.out (HB.out.trans (hB.out.mono HB.out.size))
      obtain ⟨ad, rfl, c0, c1, c2, c3⟩ := at_T98 hrow (k : Int) (by omega) (by omega)
      have hx : rd_T98 l (k : Int) = l[k] := by simp [rd_T98, hlt]
      have HX := Aside0.mk (show l[k] ∈ l from List.getElem_mem _)
      have HD := Aside0.mk (idxM_drop p l k hlt)
      rw [hx] at c0 c1 c2 c3
      rw [Int.toNat_natCast] at c0 c1 c2 c3
      generalize l[k] = x at c0 c1 c2 c3 HX HD
      have hcall := fun W (h : Below wr.heap.size wr W) => HP.out x HX.out W (hB.out.trans (h.mono hB.out.size))
      clear hrow hx
      cases hq : p x with
      | true =>
        rw [hq] at hcall HD
        go_wp2_with (go_at_fn g; refine (hcall _ (Below.refl _ _)).mono ?_; rintro e w2 ⟨rfl, hb2⟩; have B2 := Aside0.mk hb2; clear hb2)
        go_ret
        exact ⟨by rw [hN.out, HD.out]; rfl, hB.out.trans (B2.out.mono hB.out.size)⟩
      | false =>
        rw [hq] at hcall HD
        go_wp2_with (go_at_fn g; refine (hcall _ (Below.refl _ _)).mono ?_; rintro e w2 ⟨rfl, hb2⟩; have B2 := Aside0.mk hb2; clear hb2)
        go_round
        case rel => exact ⟨k + 1, by go_num, by omega, ⟨hB.out.trans (B2.out.mono hB.out.size)⟩, ⟨by rw [hN.out, HD.out]; rfl⟩⟩
        case measure => simp [intOf]; omega
    · have i1 : ¬ (k : Int) < (l.length : Int) := by omega
      go_wp2_with fail
      go_ret
      exact ⟨by rw [hN.out, List.drop_eq_nil_of_le (by omega)]; rfl, hB.out⟩
set_option maxRecDepth 100000 in
theorem containsV_calls (w0 w : World) (hb : Below w0.heap.size w0 w) (A : Option Addr) (c : Nat) (l : List S98) (hC : Kd.C k98 w0 A l.length l) (p : S98 → Bool) (g : Nat) (lb : Array Value) (eg : ∀ args W, (callFunc g args).run Tryd.prog W = .ok (.enter g args) W)
    (hp : ∀ x ∈ l, ∀ W, Below w.heap.size w W → Calls Tryd.prog g (#[.agg #[.int .i64 x.f0, .int .u64 x.f1, .string x.f2, .int .i64 x.f3]] ++ lb) W fun e w' => e = .returned (.bool (p x)) ∧ Below W.heap.size W w') :
    Calls Tryd.prog 63 #[.slice A l.length c, .func (.func g) #[] lb] w fun e w' => e = .returned (.bool (l.any p)) ∧ Below w.heap.size w w' := by
  have HI := Aside0.mk (indexV_calls w0 w hb A c l hC p g lb eg hp)
  rw [← idxM_any p l 0]
  clear hC hb hp
  go_enter Tryd.func63, Tryd.ntmps63
  go_wp2_with (go_at_call 75; refine HI.out.mono ?_; rintro e w1 ⟨rfl, hb1⟩; have B1 := Aside0.mk hb1; clear hb1)
  go_ret
  exact ⟨rfl, B1.out⟩
set_option maxRecDepth 100000 in
set_option maxHeartbeats 1000000 in
theorem indexU_calls (w0 w : World) (hb : Below w0.heap.size w0 w) (A : Option Addr) (c : Nat) (l : List S94) (hC : Kd.C k94 w0 A l.length l) (p : S94 → Bool) (g : Nat) (lb : Array Value) (eg : ∀ args W, (callFunc g args).run Tryd.prog W = .ok (.enter g args) W)
    (hp : ∀ x ∈ l, ∀ W, Below w.heap.size w W → Calls Tryd.prog g (#[.agg #[.bool x.f0, .int .i64 x.f1]] ++ lb) W fun e w' => e = .returned (.bool (p x)) ∧ Below W.heap.size W w') :
    Calls Tryd.prog 83 #[.slice A l.length c, .func (.func g) #[] lb] w fun e w' => e = .returned (.int .i64 (idxM p l 0)) ∧ Below w.heap.size w w' := by
  have HC := Aside0.mk hC
  have HB := Aside0.mk hb
  have HP := Aside0.mk hp
  have hlen : (l.length : Int) ≤ 9223372036854775807 := by have := hC.2.1; omega
  clear hC hb hp
  go_enter Tryd.func83, Tryd.ntmps83
  go_wp2_with fail
  have B0 := Aside0.mk (Below.refl w.heap.size w)
  have N0 := Aside0.mk (Eq.refl (idxM p l 0))
  go_loopw [5, 8] (fun _ i wr => ∃ (k : Nat), i = .int .i64 k ∧ k ≤ l.length ∧ Aside0 (Below w.heap.size w wr) ∧ Aside0 (idxM p l 0 = idxM p (l.drop k) k)) (fun _ i _ => l.length - (intOf i).toNat)
  case atStart => exact ⟨0, rfl, Nat.zero_le _, B0, ⟨by rw [List.drop_zero]⟩⟩
  case round =>
    obtain ⟨k, rfl, hk, hB, hN⟩ := hrel
    by_cases hlt : k < l.length
    · have i1 : (k : Int) < (l.length : Int) := by omega
      have hrow := Kd.C_below HC.out (HB.out.trans (hB.out.mono HB.out.size))
      obtain ⟨ad, rfl, c0, c1⟩ := at_T94 hrow (k : Int) (by omega) (by omega)
      have hx : rd_T94 l (k : Int) = l[k] := by simp [rd_T94, hlt]
      have HX := Aside0.mk (show l[k] ∈ l from List.getElem_mem _)
      have HD := Aside0.mk (idxM_drop p l k hlt)
      rw [hx] at c0 c1
      rw [Int.toNat_natCast] at c0 c1
      generalize l[k] = x at c0 c1 HX HD
      have hcall := fun W (h : Below wr.heap.size wr W) => HP.out x HX.out W (hB.out.trans (h.mono hB.out.size))
      clear hrow hx
      cases hq : p x with
      | true =>
        rw [hq] at hcall HD
        go_wp2_with (go_at_fn g; refine (hcall _ (Below.refl _ _)).mono ?_; rintro e w2 ⟨rfl, hb2⟩; have B2 := Aside0.mk hb2; clear hb2)
        go_ret
        exact ⟨by rw [hN.out, HD.out]; rfl, hB.out.trans (B2.out.mono hB.out.size)⟩
      | false =>
        rw [hq] at hcall HD
        go_wp2_with (go_at_fn g; refine (hcall _ (Below.refl _ _)).mono ?_; rintro e w2 ⟨rfl, hb2⟩; have B2 := Aside0.mk hb2; clear hb2)
        go_round
        case rel => exact ⟨k + 1, by go_num, by omega, ⟨hB.out.trans (B2.out.mono hB.out.size)⟩, ⟨by rw [hN.out, HD.out]; rfl⟩⟩
        case measure => simp [intOf]; omega
    · have i1 : ¬ (k : Int) < (l.length : Int) := by omega
      go_wp2_with fail
      go_ret
      exact ⟨by rw [hN.out, List.drop_eq_nil_of_le (by omega)]; rfl, hB.out⟩
set_option maxRecDepth 100000 in
theorem containsU_calls (w0 w : World) (hb : Below w0.heap.size w0 w) (A : Option Addr) (c : Nat) (l : List S94) (hC : Kd.C k94 w0 A l.length l) (p : S94 → Bool) (g : Nat) (lb : Array Value) (eg : ∀ args W, (callFunc g args).run Tryd.prog W = .ok (.enter g args) W)
    (hp : ∀ x ∈ l, ∀ W, Below w.heap.size w W → Calls Tryd.prog g (#[.agg #[.bool x.f0, .int .i64 x.f1]] ++ lb) W fun e w' => e = .returned (.bool (p x)) ∧ Below W.heap.size W w') :
    Calls Tryd.prog 77 #[.slice A l.length c, .func (.func g) #[] lb] w fun e w' => e = .returned (.bool (l.any p)) ∧ Below w.heap.size w w' := by
  have HI := Aside0.mk (indexU_calls w0 w hb A c l hC p g lb eg hp)
  rw [← idxM_any p l 0]
  clear hC hb hp
  go_enter Tryd.func77, Tryd.ntmps77
  go_wp2_with (go_at_call 83; refine HI.out.mono ?_; rintro e w1 ⟨rfl, hb1⟩; have B1 := Aside0.mk hb1; clear hb1)
  go_ret
  exact ⟨rfl, B1.out⟩
end Go.Proofs.YtlhnkfheojlghaaDoor.Pr
