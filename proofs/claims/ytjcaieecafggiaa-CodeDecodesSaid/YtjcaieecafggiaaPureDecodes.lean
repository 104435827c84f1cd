/- The plain law of CodeDecodes. -/
import Derived.Test.YtjcaieecafggiaaPureCodeD
import Derived.Test.YtjcaieecafggiaaPr4
namespace Go.Proofs.Ytjcaieecafggiaa.Pure
open Go.RowKit Go.Proofs.Ytjcaieecafggiaa.Pr Go.Proofs.YtjcaieecafggiaaW.PrintWords Go.Proofs.YtjcaieecafggiaaW.PrintLast Go.Proofs.YtjcaieecafggiaaW.PrintMore
set_option linter.unusedVariables false
set_option linter.unusedSimpArgs false
theorem bts_of_wf {l : List Int} (h : ∀ x ∈ l, (Lit.int .u8 x).wf = true) : Bts l := fun x hx => by
  have := h x hx
  simp [Lit.wf, IntKind.min, IntKind.max, IntKind.signed, IntKind.bits] at this
  omega
/-- What is read has no great depth, and rows that there can be. -/
theorem foldR_all {f : List Int → Option (S26 × List Int × Int)} {P : S26 → Prop} (hf : ∀ bs c rest, f bs = some (c, rest, 0) → P c) : ∀ (n : Nat) (acc L : List S26) (bs rest : List Int), (∀ x ∈ acc, P x) → foldR f n acc bs = some (L, rest, 0) → ∀ x ∈ L, P x
  | 0, acc, L, bs, rest, ha, h => by
    simp only [foldR, Option.some.injEq, Prod.mk.injEq] at h
    rw [← h.1]; exact ha
  | n + 1, acc, L, bs, rest, ha, h => by
    simp only [foldR] at h
    obtain ⟨⟨x, r, e2⟩, h1, h2⟩ := Option.bind_eq_some_iff.mp h
    by_cases he : e2 = 0
    · subst he
      rw [if_pos rfl] at h2
      refine foldR_all hf n _ L r rest (fun y hy => ?_) h2
      rcases List.mem_append.1 hy with hy | hy
      · exact ha y hy
      · rw [List.mem_singleton.1 hy]; exact hf _ _ _ h1
    · rw [if_neg he] at h2
      simp only [Option.some.injEq, Prod.mk.injEq] at h2
      exact absurd h2.2.2 he
theorem rd_good : ∀ (k deep : Nat) (bs : List Int) (c : S26) (rest : List Int), Bts bs → bs.length ≤ 1048576 → rdCell k deep bs = some (c, rest, 0) → dep (k + 1) c = true ∧ ∀ j, len j c
  | 0, deep, bs, c, rest, hb, hl, h => by simp [rdCell] at h
  | k + 1, deep, [], c, rest, hb, hl, h => by simp [rdCell] at h
  | k + 1, deep, b :: bs, c, rest, hb, hl, h => by
    have ht := hb.tail
    rw [List.length_cons] at hl
    have leaf : ∀ (x y : Int) (s : ByteArray), dep (k + 1 + 1) (⟨x, y, s, []⟩ : S26) = true ∧ ∀ j, len j (⟨x, y, s, []⟩ : S26) := fun x y s => ⟨by simp [dep], fun j => by
      cases j with
      | zero => trivial
      | succ j => exact ⟨by simp, fun x hx => by cases hx⟩⟩
    simp only [rdCell] at h
    split at h
    · split at h
      · simp at h
      · simp only [Option.some.injEq, Prod.mk.injEq] at h
        rw [← h.1]; exact leaf _ _ _
    · split at h
      · split at h
        · simp at h
        · split at h
          · split at h
            · simp at h
            · simp only [Option.some.injEq, Prod.mk.injEq] at h
              rw [← h.1]; exact leaf _ _ _
          · simp at h
      · split at h
        · split at h
          · simp at h
          · split at h
            · simp at h
            · rename_i h4
              split at h
              · simp at h
              · rename_i hn
                obtain ⟨⟨L, r, e2⟩, h6, h7⟩ := Option.map_eq_some_iff.1 h
                simp only [Prod.mk.injEq] at h7
                obtain ⟨rfl, rfl, rfl⟩ := h7
                obtain ⟨L', p, hL, hn2, hp, _⟩ := fold_back (g := fun x ys => wrCell k x (deep + 1) ys) (fun bs c rest e => rdCell_suffix k (deep + 1) bs c rest e) (fun ys c rest hy hyl hr => rd_back k (deep + 1) ys c rest hy hyl hr) _ _ _ _ _ (ht.drop 4) (by rw [List.length_drop]; omega) h6
                rw [List.nil_append] at hL
                subst hL
                rw [List.length_drop] at hn
                have hgood : ∀ x ∈ L, dep (k + 1) x = true ∧ ∀ j, len j x := by
                  -- along the fold, the bytes that are left are bytes
                  have key : ∀ (n : Nat) (acc M : List S26) (ys rest : List Int), Bts ys → ys.length ≤ 1048576 → (∀ x ∈ acc, dep (k + 1) x = true ∧ ∀ j, len j x) → foldR (fun ys => rdCell k (deep + 1) ys) n acc ys = some (M, rest, 0) → ∀ x ∈ M, dep (k + 1) x = true ∧ ∀ j, len j x := by
                    intro n
                    induction n with
                    | zero =>
                      intro acc M ys rest _ _ ha h
                      simp only [foldR, Option.some.injEq, Prod.mk.injEq] at h
                      rw [← h.1]; exact ha
                    | succ n ihn =>
                      intro acc M ys rest hy hyl ha h
                      simp only [foldR] at h
                      obtain ⟨⟨x, r2, e2⟩, g1, g2⟩ := Option.bind_eq_some_iff.mp h
                      by_cases he : e2 = 0
                      · subst he
                        rw [if_pos rfl] at g2
                        obtain ⟨pre, hpre⟩ := rdCell_suffix _ _ _ _ _ _ g1
                        refine ihn _ M r2 rest (hy.suffix hpre) (by rw [hpre, List.length_append] at hyl; omega) (fun y hy2 => ?_) g2
                        rcases List.mem_append.1 hy2 with hy2 | hy2
                        · exact ha y hy2
                        · rw [List.mem_singleton.1 hy2]; exact rd_good k (deep + 1) ys x r2 hy hyl g1
                      · rw [if_neg he] at g2
                        simp only [Option.some.injEq, Prod.mk.injEq] at g2
                        exact absurd g2.2.2 he
                  exact key _ [] L (bs.drop 4) r (ht.drop 4) (by rw [List.length_drop]; omega) (fun x hx => by cases hx) h6
                refine ⟨by rw [dep]; simp only [List.all_eq_true]; exact fun x hx => (hgood x hx).1, fun j => ?_⟩
                cases j with
                | zero => trivial
                | succ j => exact ⟨by show L.length ≤ _; omega, fun x hx => (hgood x hx).2 j⟩
        · simp at h
theorem CodeDecodes (l0 : List Int) (hm : l0.length ≤ maxLen) (hy : l0.length * 1 ≤ 140737488351232) (hw : ∀ x ∈ l0, (Lit.int .u8 x).wf = true) : ∃ k, minstrellaw07_CodeDecodes.f k l0 = some true := by
  have hb := bts_of_wf hw
  apply Ev.rounds
  -- what both sides come to
  have key : ∃ r : S26 × Int, (r.2 ≠ 0 → r.1 = z26) ∧ Ev (fun k => code_Decode.f k l0) (r.1.f0, r.1.f1, r.1.f2, r.1.f3, r.2) ∧ Ev (fun k => minstrelref07_Decode.f k l0) (r.1.f0, r.1.f1, r.1.f2, r.1.f3, r.2) ∧
      (∃ d, dep d r.1 = true) ∧ (∀ j, len j r.1) ∧ (r.2 = 0 → Ev (fun k => code_Encode.f k r.1.f0 r.1.f1 r.1.f2 r.1.f3) (l0, 0)) := by
    have hz : (∃ d, dep d z26 = true) ∧ ∀ j, len j z26 := ⟨⟨1, rfl⟩, fun j => by
      cases j with
      | zero => trivial
      | succ j => exact ⟨by simp [z26], fun x hx => by cases hx⟩⟩
    by_cases hl : 1048576 < l0.length
    · refine ⟨(z26, 2), fun _ => rfl, ⟨0, fun k _ => ?_⟩, ⟨0, fun k _ => ?_⟩, hz.1, hz.2, fun h => by cases h⟩
      · show code_Decode.f k l0 = _; unfold code_Decode.f; rw [if_pos hl]; rfl
      · show minstrelref07_Decode.f k l0 = _; unfold minstrelref07_Decode.f; rw [if_pos (by omega)]; rfl
    · obtain ⟨⟨c, rest, e⟩, hr⟩ := rdCell_some 65 0 l0 hb (by omega) (by omega)
      have href := read_eq l0 hb (by omega) 65 0 0 c rest e (by omega) (by omega) (by rw [List.drop_zero]; exact hr)
      have hdec : Ev (fun k => code_Decode.f k l0) (decR (c, rest, e)) := ⟨65, fun k hk => by
        show code_Decode.f k l0 = _
        unfold code_Decode.f
        rw [if_neg hl, at_rounds (g := fun k => rdCell k 0 l0) (fun k r h => rdCell_mono k 0 l0 r h) hk hr]
        rfl⟩
      have hrdec : ∀ v, Ev (fun k => (minstrelref07_read.f k l0 0 0).bind fun bt121 => (if bt121.2.2.2.2.2 = 0 then (if bt121.2.2.2.2.1 < (l0.length : Int) then (some (0, 0, (⟨#[]⟩ : ByteArray), ([] : List (S26)), 4)) else (some (bt121.1, bt121.2.1, bt121.2.2.1, bt121.2.2.2.1, 0))) else (some (0, 0, (⟨#[]⟩ : ByteArray), ([] : List (S26)), bt121.2.2.2.2.2)))) v → Ev (fun k => minstrelref07_Decode.f k l0) v := fun v hv => Ev.congr (fun k => by unfold minstrelref07_Decode.f; rw [if_neg (by omega)]) hv
      obtain ⟨pre, hpre⟩ := rdCell_suffix _ _ _ _ _ _ hr
      have hlen := congrArg List.length hpre
      rw [List.length_append] at hlen
      by_cases he : e = 0
      · subst he
        by_cases hrest : 0 < rest.length
        · refine ⟨(z26, 4), fun _ => rfl, ?_, hrdec _ (Ev.bind href ?_), hz.1, hz.2, fun h => by cases h⟩
          · have : decR (c, rest, 0) = (z26.f0, z26.f1, z26.f2, z26.f3, 4) := by unfold decR; simp only [if_true]; rw [if_pos hrest]; rfl
            rw [← this]; exact hdec
          · unfold outR
            simp only [if_true]
            rw [if_pos (by omega)]
            exact Ev.now _
        · have hr0 : rest = [] := List.eq_nil_of_length_eq_zero (by omega)
          subst hr0
          have hgood := rd_good 65 0 l0 c [] hb (by omega) hr
          obtain ⟨pre2, hp2, hw2⟩ := rd_back 65 0 l0 c [] hb (by omega) hr
          rw [List.append_nil] at hp2
          subst hp2
          refine ⟨(c, 0), fun h => absurd rfl h, ?_, hrdec _ (Ev.bind href ?_), ⟨_, hgood.1⟩, hgood.2, fun _ => ⟨65, fun k hk => ?_⟩⟩
          · have : decR (c, [], 0) = (c.f0, c.f1, c.f2, c.f3, 0) := by unfold decR; simp only [if_true]; rw [if_neg hrest]
            rw [← this]; exact hdec
          · unfold outR
            simp only [if_true]
            rw [if_neg (by simp)]
            exact Ev.now _
          · show code_Encode.f k c.f0 c.f1 c.f2 c.f3 = _
            unfold code_Encode.f
            have := hw2 [] (by simp only [List.length_nil]; omega)
            rw [List.nil_append] at this
            have h9 := at_rounds (g := fun k => wrCell k c 0 []) (fun k r h => wrCell_mono k c 0 [] r h) hk this
            obtain ⟨c0, c1, c2, c3⟩ := c
            simp only at h9 ⊢
            rw [h9]
            rfl
      · refine ⟨(z26, e), fun _ => rfl, ?_, hrdec _ (Ev.bind href ?_), hz.1, hz.2, fun h => absurd h he⟩
        · have : decR (c, rest, e) = (z26.f0, z26.f1, z26.f2, z26.f3, e) := by unfold decR; simp only [if_neg he]; rfl
          rw [← this]; exact hdec
        · unfold outR
          simp only [if_neg he]
          exact Ev.now _
  obtain ⟨⟨c, e⟩, hzz, h1, h2, ⟨d, hd⟩, hlen, h3⟩ := key
  simp only at hzz h1 h2 hd hlen h3
  have hs := same_eq d c c true (hlen d) (sameC_refl d c hd)
  have hll := lives_ev
  refine Ev.congr (g := fun k => minstrellaw07_CodeDecodes.f k l0) (f := fun k => (code_Decode.f k l0).bind fun bt177 => ((minstrelref07_Decode.f k l0).bind fun bt185 => (if bt177.2.2.2.2 = bt185.2.2.2.2 then ((minstrelref07_Same.f k bt177.1 bt177.2.1 bt177.2.2.1 bt177.2.2.2.1 bt185.1 bt185.2.1 bt185.2.2.1 bt185.2.2.2.1).bind fun t193 => (minstrellaw07_CodeDecodes.j0 k l0 bt177.2.2.2.2 (!t193) bt177.1 bt177.2.1 bt177.2.2.1 bt177.2.2.2.1)) else (minstrellaw07_CodeDecodes.j0 k l0 bt177.2.2.2.2 true bt177.1 bt177.2.1 bt177.2.2.1 bt177.2.2.2.1)))) (fun k => ?_) (Ev.bind h1 (Ev.bind h2 ?_))
  · unfold minstrellaw07_CodeDecodes.f
    simp only [Option.bind_some, List.nil_append, List.length_nil]
    rw [if_pos (by omega)]
  · simp only [if_true]
    refine Ev.bind hs ?_
    refine Ev.step (g := fun k => minstrellaw07_CodeDecodes.j0 k l0 e (!true) c.f0 c.f1 c.f2 c.f3) (f := fun k => (if e = 0 then ((code_Encode.f k c.f0 c.f1 c.f2 c.f3).bind fun bt194 => (if (strOfNums bt194.1).toList = (strOfNums l0).toList then (if bt194.2 = 0 then ((minstrellaw07_lives.f k).bind fun t198 => (some t198)) else (some false)) else (some false))) else ((minstrellaw07_lives.f k).bind fun t199 => (some t199)))) (fun k => ?_) ?_
    · rw [minstrellaw07_CodeDecodes.j0, if_neg (by decide)]
    · by_cases he : e = 0
      · simp only [if_pos he]
        refine Ev.bind (h3 he) ?_
        simp only [if_true]
        exact Ev.bind hll (Ev.now _)
      · simp only [if_neg he]
        exact Ev.bind hll (Ev.now _)
end Go.Proofs.Ytjcaieecafggiaa.Pure
