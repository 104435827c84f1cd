/- The plain law of CodeBegins. -/
import Derived.Test.YtjcaieecafggiaaPureCodeF
import Derived.Test.YtjcaieecafggiaaPrG
namespace Go.Proofs.Ytjcaieecafggiaa.Pure
open Go.RowKit Go.Proofs.Ytjcaieecafggiaa.Pr Go.Proofs.YtjcaieecafggiaaW.PrintWords Go.Proofs.YtjcaieecafggiaaW.PrintLast Go.Proofs.YtjcaieecafggiaaW.PrintMore
set_option linter.unusedVariables false
set_option linter.unusedSimpArgs false
theorem toList_inj {a b : ByteArray} (h : a.toList = b.toList) : a = b := by
  rw [Go.ByteArray.toList_eq, Go.ByteArray.toList_eq] at h
  exact Go.WideShapes.bytes_inj h
theorem strOfNums_inj {xs ys : List Int} (hx : Bts xs) (hy : Bts ys) (h : strOfNums xs = strOfNums ys) : xs = ys := by
  rw [← bytesOf_str hx, ← bytesOf_str hy, h]
/-- A cell of a kind that there is, and all within it. -/
def okc : Nat → S26 → Prop
  | 0, _ => False
  | k + 1, c => c.f0 = 0 ∨ c.f0 = 1 ∨ (c.f0 = 2 ∧ ∀ x ∈ c.f3, okc k x)
theorem fold_ok {g : S26 → List Int → Option (List Int × Int)} {ok : S26 → Prop} (hg : ∀ x xs ys, g x xs = some (ys, 0) → ok x) : ∀ (L : List S26) (xs ys : List Int), foldW g L xs = some (ys, 0) → ∀ x ∈ L, ok x
  | [], xs, ys, h, x, hx => by cases hx
  | y :: L, xs, ys, h, x, hx => by
    simp only [foldW] at h
    obtain ⟨⟨zs, e1⟩, h1, h2⟩ := Option.bind_eq_some_iff.mp h
    by_cases he : e1 = 0
    · subst he
      rw [if_pos rfl] at h2
      rcases List.mem_cons.1 hx with rfl | hx
      · exact hg _ _ _ h1
      · exact fold_ok hg L _ _ h2 x hx
    · rw [if_neg he] at h2
      simp only [Option.some.injEq, Prod.mk.injEq] at h2
      exact absurd h2.2 he
theorem wr_ok : ∀ (k : Nat) (c : S26) (deep : Nat) (xs ys : List Int), wrCell k c deep xs = some (ys, 0) → okc k c
  | 0, c, deep, xs, ys, h => by simp [wrCell] at h
  | k + 1, c, deep, xs, ys, h => by
    rw [okc]
    simp only [wrCell] at h
    by_cases h0 : c.f0 = 0
    · exact .inl h0
    · by_cases h1 : c.f0 = 1
      · exact .inr (.inl h1)
      · rw [if_neg h0, if_neg h1] at h
        by_cases h2 : c.f0 = 2
        · rw [if_pos h2] at h
          refine .inr (.inr ⟨h2, ?_⟩)
          split at h
          · simp at h
          · split at h
            · simp at h
            · split at h
              · exact fold_ok (fun x xs ys hx => wr_ok k x (deep + 1) xs ys hx) _ _ _ h
              · simp at h
        · rw [if_neg h2] at h; simp at h
theorem allC_of_map {n : S26 → S26} {f : S26 → S26 → Option Bool} : ∀ (L M : List S26), (∀ x ∈ L, ∀ y ∈ M, n x = n y → f x y = some true) → L.map n = M.map n → allC f L M = some true
  | [], M, h, e => by simp [allC]
  | x :: L, [], h, e => by simp at e
  | x :: L, y :: M, h, e => by
    rw [List.map_cons, List.map_cons] at e
    injection e with e1 e2
    simp only [allC, h x (List.mem_cons_self ..) y (List.mem_cons_self ..) e1, Option.bind_some, if_true]
    exact allC_of_map L M (fun a ha b hb => h a (List.mem_cons_of_mem _ ha) b (List.mem_cons_of_mem _ hb)) e2
theorem nrm_same : ∀ (k : Nat) (c d : S26), okc k c → okc k d → nrm k c = nrm k d → sameC k c d = some true
  | 0, c, d, hc, hd, h => hc.elim
  | k + 1, c, d, hc, hd, h => by
    rw [okc] at hc hd
    simp only [nrm] at h
    simp only [sameC]
    rcases hc with h0 | h1 | ⟨h2, hc⟩
    · rcases hd with g0 | g1 | ⟨g2, hd⟩
      · rw [if_pos h0, if_pos g0] at h
        injection h with _ e _ _
        rw [if_pos (by omega), if_pos h0, e, beq_self_eq_true]
      · rw [if_pos h0, if_neg (by omega), if_pos g1] at h
        injection h with e; omega
      · rw [if_pos h0, if_neg (by omega), if_neg (by omega)] at h
        injection h with e; omega
    · rcases hd with g0 | g1 | ⟨g2, hd⟩
      · rw [if_neg (by omega), if_pos h1, if_pos g0] at h
        injection h with e; omega
      · rw [if_neg (by omega), if_pos h1, if_neg (by omega), if_pos g1] at h
        injection h with _ _ e _
        rw [if_pos (by omega), if_neg (by omega), if_pos h1, e, beq_self_eq_true]
      · rw [if_neg (by omega), if_pos h1, if_neg (by omega), if_neg (by omega)] at h
        injection h with e; omega
    · rcases hd with g0 | g1 | ⟨g2, hd⟩
      · rw [if_neg (by omega), if_neg (by omega), if_pos g0] at h
        injection h with e; omega
      · rw [if_neg (by omega), if_neg (by omega), if_neg (by omega), if_pos g1] at h
        injection h with e; omega
      · rw [if_neg (by omega), if_neg (by omega), if_neg (by omega), if_neg (by omega)] at h
        injection h with _ _ _ e
        have hl : c.f3.length = d.f3.length := by simpa using congrArg List.length e
        rw [if_pos (by omega), if_neg (by omega), if_neg (by omega), if_pos h2, if_pos hl]
        exact allC_of_map _ _ (fun x hx y hy hxy => nrm_same k x y (hc x hx) (hd y hy) hxy) e
theorem foldW_same {f : S26 → S26 → Option Bool} {g : S26 → List Int → Option (List Int × Int)} (hg : ∀ x y, f x y = some true → ∀ xs, g x xs = g y xs) : ∀ (L M : List S26) (xs : List Int), L.length = M.length → allC f L M = some true → foldW g L xs = foldW g M xs
  | [], [], xs, hl, h => rfl
  | [], y :: M, xs, hl, h => by simp at hl
  | x :: L, [], xs, hl, h => by simp at hl
  | x :: L, y :: M, xs, hl, h => by
    simp only [allC] at h
    obtain ⟨r, h1, h2⟩ := Option.bind_eq_some_iff.mp h
    cases r with
    | false => simp at h2
    | true =>
      rw [if_pos rfl] at h2
      simp only [foldW, hg x y h1]
      congr 1
      funext r
      split
      · exact foldW_same hg L M _ (by simpa using hl) h2
      · rfl
theorem same_wr : ∀ (k : Nat) (c d : S26) (deep : Nat) (xs : List Int), sameC k c d = some true → wrCell k c deep xs = wrCell k d deep xs
  | 0, c, d, deep, xs, h => by simp [sameC] at h
  | k + 1, c, d, deep, xs, h => by
    simp only [sameC] at h
    by_cases he : c.f0 = d.f0
    · rw [if_pos he] at h
      simp only [wrCell, ← he]
      by_cases h0 : c.f0 = 0
      · rw [if_pos h0, Option.some.injEq, beq_iff_eq] at h
        simp only [if_pos h0, h]
      · rw [if_neg h0] at h
        by_cases h1 : c.f0 = 1
        · rw [if_pos h1, Option.some.injEq, beq_iff_eq] at h
          simp only [if_neg h0, if_pos h1, toList_inj h]
        · rw [if_neg h1] at h
          by_cases h2 : c.f0 = 2
          · rw [if_pos h2] at h
            by_cases hl : c.f3.length = d.f3.length
            · rw [if_pos hl] at h
              simp only [if_neg h0, if_neg h1, if_pos h2, hl]
              rw [foldW_same (fun x y hxy ys => same_wr k x y (deep + 1) ys hxy) _ _ _ hl h]
            · rw [if_neg hl] at h; simp at h
          · simp only [if_neg h0, if_neg h1, if_neg h2]
    · rw [if_neg he] at h; simp at h
theorem len_of_wfc : ∀ (k : Nat) (c : S26), wfc k c → len k c
  | 0, c, h => trivial
  | k + 1, c, h => ⟨by have := h.2.2.2.1; simpa only [maxLen] using this, fun x hx => len_of_wfc k x (h.2.2.2.2 x hx)⟩
theorem CodeBegins (c d : S26) (hc : ∀ j, wfc j c) (hd : ∀ j, wfc j d) : ∃ k, minstrellaw07_CodeBegins.f k c.f0 c.f1 c.f2 c.f3 d.f0 d.f1 d.f2 d.f3 = some true := by
  apply Ev.rounds
  obtain ⟨ok, hs, hok⟩ := small_top c hc
  obtain ⟨ok2, hs2, hok2⟩ := small_top d hd
  have hll := lives_ev
  have j0true : Ev (fun k => minstrellaw07_CodeBegins.j0 k true c.f0 c.f1 c.f2 c.f3 d.f0 d.f1 d.f2 d.f3) true := by
    refine Ev.step (f := fun k => (minstrellaw07_lives.f k).bind fun t168 => (some t168)) (fun k => ?_) (Ev.bind hll (Ev.now _))
    rw [minstrellaw07_CodeBegins.j0, if_pos rfl]
  have j1true : ∀ xs ys, Ev (fun k => minstrellaw07_CodeBegins.j1 k xs ys true c.f0 c.f1 c.f2 c.f3 d.f0 d.f1 d.f2 d.f3) true := by
    intro xs ys
    refine Ev.step (f := fun k => (minstrellaw07_lives.f k).bind fun t168 => (some t168)) (fun k => ?_) (Ev.bind hll (Ev.now _))
    rw [minstrellaw07_CodeBegins.j1, if_pos rfl]
  refine Ev.congr (f := fun k => (minstrellaw07_small.f k c.f0 c.f1 c.f2 c.f3).bind fun t166 => (if t166 = true then ((minstrellaw07_small.f k d.f0 d.f1 d.f2 d.f3).bind fun t167 => (minstrellaw07_CodeBegins.j0 k (!t167) c.f0 c.f1 c.f2 c.f3 d.f0 d.f1 d.f2 d.f3)) else (minstrellaw07_CodeBegins.j0 k true c.f0 c.f1 c.f2 c.f3 d.f0 d.f1 d.f2 d.f3))) (fun k => by unfold minstrellaw07_CodeBegins.f; rfl) (Ev.bind hs ?_)
  cases ok with
  | false => simpa only [Bool.false_eq_true, if_false] using j0true
  | true =>
    simp only [if_true]
    refine Ev.bind hs2 ?_
    cases ok2 with
    | false => simpa only [Bool.not_false] using j0true
    | true =>
      obtain ⟨K1, hd1, hB1⟩ := hok rfl
      obtain ⟨K2, hd2, hB2⟩ := hok2 rfl
      have hD1 := dep_le hd1 (Nat.le_max_left K1 K2)
      have hD2 := dep_le hd2 (Nat.le_max_right K1 K2)
      generalize max K1 K2 = K at hD1 hD2
      have ho1 := own_ev K1 c hd1 hB1
      have ho2 := own_ev K2 d hd2 hB2
      obtain ⟨⟨xs, e0⟩, hw1⟩ := wrCell_some K c 0 [] hD1
      obtain ⟨⟨ys, g0⟩, hw2⟩ := wrCell_some K d 0 [] hD2
      have hE1 := enc_ev hw1
      have hE2 := enc_ev hw2
      refine Ev.step (f := fun k => (minstrelref07_Own.f k c.f0 c.f1 c.f2 c.f3).bind fun bt169 => ((code_Encode.f k bt169.1 bt169.2.1 bt169.2.2.1 bt169.2.2.2).bind fun bt175 => ((minstrelref07_Own.f k d.f0 d.f1 d.f2 d.f3).bind fun bt179 => ((code_Encode.f k bt179.1 bt179.2.1 bt179.2.2.1 bt179.2.2.2).bind fun bt185 => (if bt175.2 = 0 then (if bt185.2 = 0 then (minstrellaw07_CodeBegins.j1 k bt175.1 bt185.1 (decide ((bt175.1.length : Int) > (bt185.1.length : Int))) c.f0 c.f1 c.f2 c.f3 d.f0 d.f1 d.f2 d.f3) else (minstrellaw07_CodeBegins.j1 k bt175.1 bt185.1 true c.f0 c.f1 c.f2 c.f3 d.f0 d.f1 d.f2 d.f3)) else (minstrellaw07_CodeBegins.j1 k bt175.1 bt185.1 true c.f0 c.f1 c.f2 c.f3 d.f0 d.f1 d.f2 d.f3)))))) (fun k => by rw [minstrellaw07_CodeBegins.j0, if_neg (by decide)]) (Ev.bind ho1 (Ev.bind hE1 (Ev.bind ho2 (Ev.bind hE2 ?_))))
      by_cases he : e0 = 0
      · subst he
        simp only [if_true]
        by_cases hg : g0 = 0
        · subst hg
          simp only [if_true]
          by_cases hlt : (xs.length : Int) > (ys.length : Int)
          · rw [decide_eq_true hlt]
            exact j1true _ _
          · rw [decide_eq_false hlt]
            obtain ⟨e1, hy1, hyl1, hW1⟩ := wr_read K c 0 [] xs hc hw1
            obtain ⟨e2, hy2, hyl2, hW2⟩ := wr_read K d 0 [] ys hd hw2
            rw [List.nil_append] at hy1 hy2
            subst hy1 hy2
            obtain ⟨r, hr⟩ := sameC_some K c d hD1
            have hsm := same_eq K c d r (len_of_wfc K c (hc K)) hr
            have key : ((strOfNums (ys.take xs.length)).toList == (strOfNums xs).toList) = r := by
              cases r with
              | true =>
                have hxy := (hw1.symm.trans (same_wr K c d 0 [] hr)).trans hw2
                simp only [Option.some.injEq, Prod.mk.injEq, and_true] at hxy
                subst hxy
                rw [List.take_of_length_le (Nat.le_refl _), beq_self_eq_true]
              | false =>
                rw [beq_eq_false_iff_ne]
                intro h
                have h3 := strOfNums_inj (hW2.bts.take _) hW1.bts (toList_inj h)
                have h4 := hW1.whole (ys.drop xs.length)
                have h5 := hW2.whole []
                have h6 : xs ++ ys.drop xs.length = ys := by rw [← h3, List.length_take, Nat.min_eq_left (by omega), List.take_append_drop]
                rw [h6] at h4
                rw [List.append_nil] at h5
                have h7 := h4.symm.trans h5
                simp only [Option.some.injEq, Prod.mk.injEq] at h7
                have h8 := nrm_same K c d (wr_ok _ _ _ _ _ hw1) (wr_ok _ _ _ _ _ hw2) h7.1
                rw [hr] at h8
                cases h8
            refine Ev.step (f := fun k => (minstrelref07_Same.f k c.f0 c.f1 c.f2 c.f3 d.f0 d.f1 d.f2 d.f3).bind fun t195 => (if (((strOfNums (ys.take ((xs.length : Int) : Int).toNat)).toList == (strOfNums xs).toList) == t195) = true then ((minstrellaw07_lives.f k).bind fun t196 => (some t196)) else (some false))) (fun k => ?_) (Ev.bind hsm ?_)
            · rw [minstrellaw07_CodeBegins.j1, if_neg (by decide), if_pos (by omega), if_pos (by omega)]
            · rw [Int.toNat_natCast, key]
              simp only [beq_self_eq_true, if_true]
              exact Ev.bind hll (Ev.now _)
        · simp only [if_neg hg]
          exact j1true _ _
      · simp only [if_neg he]
        exact j1true _ _
end Go.Proofs.Ytjcaieecafggiaa.Pure
