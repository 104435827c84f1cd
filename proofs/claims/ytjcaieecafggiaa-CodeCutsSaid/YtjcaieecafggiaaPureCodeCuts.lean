/- The plain law of CodeCuts. -/
import Derived.Test.YtjcaieecafggiaaPureCodeF
namespace Go.Proofs.Ytjcaieecafggiaa.Pure
open Go.RowKit Go.Proofs.Ytjcaieecafggiaa.Pr Go.Proofs.YtjcaieecafggiaaW.PrintWords Go.Proofs.YtjcaieecafggiaaW.PrintLast Go.Proofs.YtjcaieecafggiaaW.PrintMore
set_option linter.unusedVariables false
set_option linter.unusedSimpArgs false
theorem CodeCuts (c : S26) (a1 : Int) (hw : ∀ j, wfc j c) (h1 : (Lit.int .u16 a1).wf = true) : ∃ k, minstrellaw07_CodeCuts.f k c.f0 c.f1 c.f2 c.f3 a1 = some true := by
  apply Ev.rounds
  have ha : 0 ≤ a1 ∧ a1 ≤ 65535 := by simpa [Lit.wf, IntKind.min, IntKind.max, IntKind.signed, IntKind.bits] using h1
  obtain ⟨ok, hs, hok⟩ := small_top c hw
  have hll := lives_ev
  refine Ev.congr (f := fun k => (minstrellaw07_small.f k c.f0 c.f1 c.f2 c.f3).bind fun t283 => (if t283 = true then ((minstrelref07_Own.f k c.f0 c.f1 c.f2 c.f3).bind fun bt285 => ((code_Encode.f k bt285.1 bt285.2.1 bt285.2.2.1 bt285.2.2.2).bind fun bt291 => (if bt291.2 = 0 then (minstrellaw07_CodeCuts.j0 k a1 bt291.1 ((bt291.1.length : Int) == 0)) else (minstrellaw07_CodeCuts.j0 k a1 bt291.1 true)))) else ((minstrellaw07_lives.f k).bind fun t284 => (some t284)))) (fun k => ?_) (Ev.bind hs ?_)
  · unfold minstrellaw07_CodeCuts.f
    rfl
  cases ok with
  | false =>
    simp only [Bool.false_eq_true, if_false]
    exact Ev.bind hll (Ev.now _)
  | true =>
    obtain ⟨K, hd, hB⟩ := hok rfl
    simp only [if_true]
    refine Ev.bind (own_ev K c hd hB) ?_
    obtain ⟨⟨ys, e0⟩, hwr⟩ := wrCell_some K c 0 [] hd
    refine Ev.bind (enc_ev hwr) ?_
    by_cases he : e0 = 0
    · subst he
      simp only [if_true]
      obtain ⟨e, hy, hyl, hW⟩ := wr_read K c 0 [] ys hw hwr
      rw [List.nil_append] at hy
      subst hy
      have h1 := hW.one
      have hb0 : ((ys.length : Int) == 0) = false := by
        rw [beq_eq_false_iff_ne]; omega
      rw [hb0]
      have htm : Int.tmod a1 (ys.length : Int) = ((a1.toNat % ys.length : Nat) : Int) := by
        rw [Int.tmod_eq_emod_of_nonneg ha.1, Int.natCast_emod, Int.toNat_of_nonneg ha.1]
      have hlt : a1.toNat % ys.length < ys.length := Nat.mod_lt _ (by omega)
      have hwa : wrap64 a1 = a1 := wrap64_in _ (by omega) (by omega)
      obtain ⟨z, r, hz⟩ := hW.front _ hlt
      have hdec1 := dec_ev (by rw [List.length_take]; omega) hz
      have hd3 : decR (z, r, 3) = (0, 0, ⟨#[]⟩, [], 3) := rfl
      rw [hd3] at hdec1
      have hdec2 : ∃ q : Int × Int × ByteArray × (List S26) × Int, Ev (fun k => code_Decode.f k (ys ++ [a1 % 256])) q ∧ (q.2.2.2.2 = 4 ∨ ((ys.length : Int) = 1048576 ∧ q.2.2.2.2 = 2 ∧ ¬ q.2.2.2.2 = 4)) := by
        by_cases hlong : 1048576 < (ys ++ [a1 % 256]).length
        · refine ⟨_, dec_long hlong, .inr ⟨?_, rfl, by decide⟩⟩
          rw [List.length_append, List.length_singleton] at hlong
          omega
        · have := dec_ev (by omega) (hW.whole [a1 % 256])
          refine ⟨_, this, .inl ?_⟩
          rfl
      obtain ⟨q, hq, hq4⟩ := hdec2
      have W := Aside0.mk hwa
      clear hwa
      refine Ev.step (f := fun k => (code_Decode.f k ([] ++ ys.take (a1.toNat % ys.length))).bind fun bt307 => ((code_Decode.f k (ys ++ [a1 % 256])).bind fun bt324 => (if bt307.2.2.2.2 = 3 then (if bt324.2.2.2.2 = 4 then ((minstrellaw07_lives.f k).bind fun t332 => (some t332)) else (if (ys.length : Int) = 1048576 then (if bt324.2.2.2.2 = 2 then ((minstrellaw07_lives.f k).bind fun t333 => (some t333)) else (some false)) else (some false))) else (some false)))) (fun k => ?_) (Ev.bind hdec1 (Ev.bind hq ?_))
      · rw [minstrellaw07_CodeCuts.j0, if_neg (by decide)]
        simp only [Option.bind_some, W.out, htm]
        rw [if_neg (by omega), if_pos (by omega), if_pos (by omega)]
        simp only [List.length_nil, List.nil_append, Int.toNat_natCast, List.length_take]
        rw [if_pos (by omega)]
        simp only [if_pos (show 0 + ys.length < 140737488355328 by omega), if_pos (show ys.length < 140737488355328 by omega)]
      · simp only [if_true]
        rcases hq4 with h4 | ⟨hl, h2, h4⟩
        · simp only [if_pos h4]
          exact Ev.bind hll (Ev.now _)
        · simp only [if_neg h4, if_pos hl, if_pos h2]
          exact Ev.bind hll (Ev.now _)
    · simp only [if_neg he]
      refine Ev.step (f := fun k => (minstrellaw07_lives.f k).bind fun t295 => (some t295)) (fun k => ?_) (Ev.bind hll (Ev.now _))
      rw [minstrellaw07_CodeCuts.j0, if_pos rfl, if_pos (by simp)]
end Go.Proofs.Ytjcaieecafggiaa.Pure
