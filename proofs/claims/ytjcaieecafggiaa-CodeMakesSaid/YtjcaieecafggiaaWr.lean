/- The writer of package code: its state, and what each of its methods makes of it. -/
import Derived.Test.YtjcaieecafggiaaCaught
namespace Go.Proofs.Ytjcaieecafggiaa.Pr
open Go.RowKit Go.Proofs.YtjcaieecafggiaaW.PrintWords Go.Proofs.YtjcaieecafggiaaW.PrintLast Go.Proofs.YtjcaieecafggiaaW.PrintMore
set_option linter.unusedVariables false
set_option linter.unusedSimpArgs false
/-- The writer in block p: its row v of the bytes xs. -/
structure Wr (B p : Nat) (w : World) (v : Value) (xs : List Int) : Prop where
  blk : w.heap[p]? = some (.cells #[v] 53 (0, 0))
  own : w.ownsRow B 5 1 v xs.length (nums .u8 xs)
  base : B ≤ p
theorem Wr.ne {B p : Nat} {w : World} {v : Value} {xs : List Int} (h : Wr B p w v xs) : v.ownBlock ≠ some p := by
  intro hk
  rcases h.own.2 with ⟨rfl, _⟩ | ⟨g, cap, cur, rfl, _, hh, _⟩
  · simp [Value.ownBlock] at hk
  · have : g = p := by simpa [Value.ownBlock] using hk
    subst this
    rw [h.blk] at hh
    injection hh with hh
    injection hh with _ ht
    exact absurd ht (by decide)
theorem Wr.lt {B p : Nat} {w : World} {v : Value} {xs : List Int} (h : Wr B p w v xs) : p < w.heap.size := (Array.getElem?_eq_some_iff.1 h.blk).1
/-- What became of the world: it is as it was, but for the writer, its row, and what is new. -/
def WrEnd (B p : Nat) (w : World) (v : Value) (w' : World) (ys : List Int) : Prop :=
  ∃ v', Wr B p w' v' ys ∧ (v'.ownBlock = v.ownBlock ∨ ∃ b, v'.ownBlock = some b ∧ w.heap.size ≤ b) ∧ Below B w w' ∧ Kept w w' (fun k => k = p ∨ some k = v.ownBlock)
theorem WrEnd.refl {B p : Nat} {w : World} {v : Value} {xs : List Int} (h : Wr B p w v xs) : WrEnd B p w v w xs := ⟨v, h, .inl rfl, Below.refl _ _, Kept.refl _ _⟩
theorem WrEnd.then_ {B p : Nat} {w w1 w2 : World} {v v1 : Value} {xs ys zs : List Int} (hv : Wr B p w1 v1 ys) (ho : v1.ownBlock = v.ownBlock ∨ ∃ b, v1.ownBlock = some b ∧ w.heap.size ≤ b) (hb : Below B w w1) (hk : Kept w w1 (fun k => k = p ∨ some k = v.ownBlock))
    (h : WrEnd B p w1 v1 w2 zs) : WrEnd B p w v w2 zs := by
  obtain ⟨v2, h1, h2, h3, h4⟩ := h
  refine ⟨v2, h1, ?_, hb.trans h3, hk.then_ h4 ?_⟩
  · rcases h2 with h2 | ⟨b, h2, h2'⟩
    · rw [h2]; exact ho
    · exact .inr ⟨b, h2, Nat.le_trans hk.1 h2'⟩
  · intro k hk'
    rcases hk' with rfl | hk'
    · exact .inl (.inl rfl)
    · rcases ho with ho | ⟨b, ho, hb'⟩
      · exact .inl (.inr (hk'.trans ho))
      · rw [ho] at hk'
        injection hk' with hk'
        exact .inr (hk' ▸ hb')
/-- A call of the writer ends: with no word, or given up for n. -/
def wrongE (n : Int) : Ending := .panicked [{ v := wrongV n, recovered := false }]
def lookE (n : Nat) : Ending := if 1048576 < n then wrongE 2 else .returned (.tuple #[])
theorem looks_calls {B p : Nat} {w : World} {v : Value} {xs : List Int} (h : Wr B p w v xs) : Calls Try.prog 37 #[.pointer (some ⟨p, 0, none⟩)] w fun e w' => e = lookE xs.length ∧ w = w' := by
  obtain ⟨A, c, hv⟩ := own_slice h.own
  have hc : w.cell? ⟨p, 0, none⟩ = some (.slice A xs.length c) := by rw [← hv]; exact (blk_cell h.blk 0).trans rfl
  clear h hv
  by_cases hx : 1048576 < xs.length
  · have H : Aside0 (lookE xs.length = wrongE 2) := ⟨by unfold lookE; rw [if_pos hx]⟩
    have h1 : decide (1048576 < (xs.length : Int)) = true := decide_eq_true (by omega)
    have h2 : decide (1048576 < xs.length) = true := decide_eq_true hx
    clear hx
    go_enter Try.func37, Try.ntmps37
    go_wp2_with (go_at_call 34; refine (give_calls _ _).mono ?_; rintro e w' ⟨rfl, rfl⟩)
    unfold bodyPost
    exact ⟨rfl, H.out.symm, rfl⟩
  · have H : Aside0 (lookE xs.length = .returned (.tuple #[])) := ⟨by unfold lookE; rw [if_neg hx]⟩
    have h1 : decide (1048576 < (xs.length : Int)) = false := decide_eq_false (by omega)
    have h2 : decide (1048576 < xs.length) = false := decide_eq_false hx
    clear hx
    go_enter Try.func37, Try.ntmps37
    go_wp2
    go_end0
    exact ⟨H.out.symm, rfl⟩
end Go.Proofs.Ytjcaieecafggiaa.Pr
