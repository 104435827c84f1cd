/- The writer of package code: cell. -/
import Derived.Test.YtjcaieecafggiaaWrCell
namespace Go.Proofs.Ytjcaieecafggiaa.Pr
open Go.RowKit Go.Proofs.YtjcaieecafggiaaW.PrintWords Go.Proofs.YtjcaieecafggiaaW.PrintLast Go.Proofs.YtjcaieecafggiaaW.PrintMore
set_option linter.unusedVariables false
set_option linter.unusedSimpArgs false
theorem Wr.below {B p : Nat} {w w1 : World} {v : Value} {xs : List Int} (h : Wr B p w v xs) (hb : Below w.heap.size w w1) : Wr B p w1 v xs :=
  ⟨(hb.block p h.lt).trans h.blk, pw_own_below h.own hb, h.base⟩
/-- From a world that is this one but for what is new. -/
theorem WrEnd.from {B p : Nat} {w w1 w2 : World} {v : Value} {zs : List Int} (hB : B ≤ w.heap.size) (hb : Below w.heap.size w w1) (h : WrEnd B p w1 v w2 zs) : WrEnd B p w v w2 zs := by
  obtain ⟨v2, h1, h2, h3, h4⟩ := h
  refine ⟨v2, h1, ?_, (hb.mono hB).trans h3, (Kept.of_below hb _).then_ h4 (fun k hk => .inl hk)⟩
  rcases h2 with h2 | ⟨b, h2, h2'⟩
  · exact .inl h2
  · exact .inr ⟨b, h2, Nat.le_trans hb.size h2'⟩
theorem lookC_or (n : Nat) : lookC n = 0 ∨ lookC n = 2 := by
  unfold lookC
  split
  · exact .inr rfl
  · exact .inl rfl
set_option maxHeartbeats 1600000 in
set_option maxRecDepth 100000 in
theorem cell_number (w0 : World) (p : Nat) (N : Int) (S : ByteArray) (V3 : Value) (deep : Nat) (w : World) (v : Value) (xs : List Int) (h : Wr w0.heap.size p w v xs) (hl : xs.length ≤ 1048576) (h3 : V3.oneCell' = true) :
    Calls Try.prog 26 #[.pointer (some ⟨p, 0, none⟩), .agg #[.int .i64 0, .int .u64 N, .string S, V3], .int .i64 deep] w fun e w' =>
      e = endOf (lookC (xs.length + 9)) ∧ WrEnd w0.heap.size p w v w' (xs ++ (0 :: beB N 8)) := by
  have hbel : ∀ o, Below w.heap.size w (w.alloc o) := fun o => (Below.refl _ _).alloc (Nat.le_refl _) _
  have H := Aside0.mk h
  have HB := Aside0.mk hbel
  clear h hbel
  go_enter Try.func26, Try.ntmps26
  go_wp2_with fail
  refine (put_calls (H.out.below (HB.out _)) hl 0 N 8 (by omega)).mono ?_
  rintro e w2 ⟨rfl, hE⟩
  have HE := Aside0.mk (WrEnd.from (Nat.le_trans H.out.base (Nat.le_of_lt H.out.lt)) (HB.out _) hE)
  clear hE
  rw [lookE_eq]
  rcases lookC_or (xs.length + (1 + 8)) with hq | hq
  · have HQ := Aside0.mk hq
    rw [hq, endOf_zero]
    clear hq
    go_wp2
    go_end0
    exact ⟨by rw [show xs.length + 9 = xs.length + (1 + 8) by omega, HQ.out]; rfl, HE.out⟩
  · have HQ := Aside0.mk hq
    rw [hq, endOf_not (by decide)]
    clear hq
    unfold wrongE
    go_wp2
    unfold bodyPost
    exact ⟨rfl, by rw [show xs.length + 9 = xs.length + (1 + 8) by omega, HQ.out]; rfl, HE.out⟩
set_option maxHeartbeats 1600000 in
set_option maxRecDepth 100000 in
theorem cell_else (w0 : World) (p : Nat) (k N : Int) (S : ByteArray) (V3 : Value) (deep : Nat) (w : World) (v : Value) (xs : List Int) (h : Wr w0.heap.size p w v xs) (h3 : V3.oneCell' = true) (h0 : k ≠ 0) (h1 : k ≠ 1) (h2 : k ≠ 2) :
    Calls Try.prog 26 #[.pointer (some ⟨p, 0, none⟩), .agg #[.int .i64 k, .int .u64 N, .string S, V3], .int .i64 deep] w fun e w' =>
      e = endOf 1 ∧ WrEnd w0.heap.size p w v w' xs := by
  have hbel : ∀ o, Below w.heap.size w (w.alloc o) := fun o => (Below.refl _ _).alloc (Nat.le_refl _) _
  have HE : Aside0 (∀ o, WrEnd w0.heap.size p w v (w.alloc o) xs) := ⟨fun o => WrEnd.from (Nat.le_trans h.base (Nat.le_of_lt h.lt)) (hbel o) (WrEnd.refl (h.below (hbel o)))⟩
  have b0 : (k == 0) = false := beq_eq_false_iff_ne.mpr h0
  have b1 : (k == 1) = false := beq_eq_false_iff_ne.mpr h1
  have b2 : (k == 2) = false := beq_eq_false_iff_ne.mpr h2
  clear h h0 h1 h2 hbel
  go_enter Try.func26, Try.ntmps26
  go_wp2_with (go_at_call 34; refine (give_calls _ _).mono ?_; rintro e w' ⟨rfl, rfl⟩)
  unfold bodyPost
  exact ⟨rfl, by rw [endOf_not (by decide)]; rfl, HE.out _⟩
set_option maxHeartbeats 1600000 in
set_option maxRecDepth 100000 in
theorem cell_long (w0 : World) (p : Nat) (N : Int) (S : ByteArray) (V3 : Value) (deep : Nat) (w : World) (v : Value) (xs : List Int) (h : Wr w0.heap.size p w v xs) (h3 : V3.oneCell' = true) (hs : 1048576 < S.size) :
    Calls Try.prog 26 #[.pointer (some ⟨p, 0, none⟩), .agg #[.int .i64 1, .int .u64 N, .string S, V3], .int .i64 deep] w fun e w' =>
      e = endOf 2 ∧ WrEnd w0.heap.size p w v w' xs := by
  have hbel : ∀ o, Below w.heap.size w (w.alloc o) := fun o => (Below.refl _ _).alloc (Nat.le_refl _) _
  have HE : Aside0 (∀ o, WrEnd w0.heap.size p w v (w.alloc o) xs) := ⟨fun o => WrEnd.from (Nat.le_trans h.base (Nat.le_of_lt h.lt)) (hbel o) (WrEnd.refl (h.below (hbel o)))⟩
  have b0 : decide (1048576 < (S.size : Int)) = true := decide_eq_true (by omega)
  have b1 : decide (1048576 < S.size) = true := decide_eq_true (by omega)
  clear h hbel hs
  go_enter Try.func26, Try.ntmps26
  go_wp2_with (go_at_call 34; refine (give_calls _ _).mono ?_; rintro e w' ⟨rfl, rfl⟩)
  unfold bodyPost
  exact ⟨rfl, by rw [endOf_not (by decide)]; rfl, HE.out _⟩
end Go.Proofs.Ytjcaieecafggiaa.Pr
