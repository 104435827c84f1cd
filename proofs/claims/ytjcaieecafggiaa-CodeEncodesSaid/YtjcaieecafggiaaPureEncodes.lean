/- The plain law of CodeEncodes. -/
import Derived.Test.YtjcaieecafggiaaPureCodeP
import Derived.Test.YtjcaieecafggiaaPureCodeH
import Derived.Test.YtjcaieecafggiaaPrL
namespace Go.Proofs.Ytjcaieecafggiaa.Pure
open Go.RowKit Go.Proofs.Ytjcaieecafggiaa.Pr Go.Proofs.YtjcaieecafggiaaW.PrintWords Go.Proofs.YtjcaieecafggiaaW.PrintLast Go.Proofs.YtjcaieecafggiaaW.PrintMore
set_option linter.unusedVariables false
set_option linter.unusedSimpArgs false
theorem allC_map {n : S26 → S26} {f : S26 → S26 → Option Bool} : ∀ (L : List S26), (∀ x ∈ L, f (n x) x = some true) → allC f (L.map n) L = some true
  | [], h => rfl
  | x :: L, h => by
    simp only [List.map_cons, allC, h x (List.mem_cons_self ..), Option.bind_some, if_true]
    exact allC_map L (fun y hy => h y (List.mem_cons_of_mem _ hy))
theorem same_nrm : ∀ (k : Nat) (c : S26), okc k c → sameC k (nrm k c) c = some true
  | 0, c, h => h.elim
  | k + 1, c, h => by
    rw [okc] at h
    rw [nrm]
    by_cases h0 : c.f0 = 0
    · rw [if_pos h0]
      simp only [sameC, h0, if_true, beq_self_eq_true]
    · rw [if_neg h0]
      by_cases h1 : c.f0 = 1
      · rw [if_pos h1]
        simp only [sameC, h1, if_true, beq_self_eq_true]
        rw [if_neg (by decide)]
      · rw [if_neg h1]
        rcases h with h | h | ⟨h2, hx⟩
        · exact absurd h h0
        · exact absurd h h1
        · simp only [sameC, h2, if_true, List.length_map]
          rw [if_neg (by decide), if_neg (by decide)]
          exact allC_map _ (fun x hm => same_nrm k x (hx x hm))
theorem len_nrm : ∀ (k j : Nat) (c : S26), (∀ j, len j c) → len j (nrm k c)
  | 0, j, c, h => h j
  | k + 1, 0, c, h => trivial
  | k + 1, j + 1, c, h => by
    rw [nrm]
    split
    · exact ⟨by simp, fun x hx => by cases hx⟩
    · split
      · exact ⟨by simp, fun x hx => by cases hx⟩
      · refine ⟨by rw [List.length_map]; exact (h 1).1, fun x hx => ?_⟩
        obtain ⟨y, hy, rfl⟩ := List.mem_map.1 hx
        exact len_nrm k j y (fun i => (h (i + 1)).2 y hy)
theorem refEnc_ev {K : Nat} {c : S26} {r : List Int × Int} (hw : ∀ j, wfc j c) (hz : ∀ j, szc j c) (h : wrCell K c 0 [] = some r) : Ev (fun k => minstrelref07_Encode.f k c.f0 c.f1 c.f2 c.f3) (put2 r) := by
  have := put_ev K c 0 [] r hw hz (by omega) (by simp) h
  refine Ev.congr (f := fun k => (minstrelref07_put.f k ([] : List Int) c.f0 c.f1 c.f2 c.f3 ((0 : Nat) : Int)).bind fun bt201 => (some (bt201.1, bt201.2))) (fun k => by unfold minstrelref07_Encode.f; rfl) (Ev.bind this (Ev.now _))
theorem codeSame_ev {K : Nat} {c d : S26} {r : Bool} (h : sameC K c d = some r) : Ev (fun k => code_Same.f k c.f0 c.f1 c.f2 c.f3 d.f0 d.f1 d.f2 d.f3) r := by
  have hk : code_Same.f K c.f0 c.f1 c.f2 c.f3 d.f0 d.f1 d.f2 d.f3 = some r := by
    unfold code_Same.f
    rw [eta26, eta26]
    exact h
  exact Ev.of (fun k => code_Same.mono _ _ _ _ _ _ _ _ k) hk
theorem CodeEncodes (c d : S26) (hc : ∀ j, wfc j c) (zc : ∀ j, szc j c) (hd : ∀ j, wfc j d) (zd : ∀ j, szc j d) : ∃ k, minstrellaw07_CodeEncodes.f k c.f0 c.f1 c.f2 c.f3 d.f0 d.f1 d.f2 d.f3 = some true := by
  apply Ev.rounds
  obtain ⟨ok, hs, hok⟩ := small_top c hc
  obtain ⟨ok2, hs2, hok2⟩ := small_top d hd
  have hll := lives_ev
  have j0true : Ev (fun k => minstrellaw07_CodeEncodes.j0 k true c.f0 c.f1 c.f2 c.f3 d.f0 d.f1 d.f2 d.f3) true := by
    refine Ev.step (f := fun k => (minstrellaw07_lives.f k).bind fun t168 => (some t168)) (fun k => ?_) (Ev.bind hll (Ev.now _))
    rw [minstrellaw07_CodeEncodes.j0, if_pos rfl]
  refine Ev.congr (f := fun k => (minstrellaw07_small.f k c.f0 c.f1 c.f2 c.f3).bind fun t166 => (if t166 = true then ((minstrellaw07_small.f k d.f0 d.f1 d.f2 d.f3).bind fun t167 => (minstrellaw07_CodeEncodes.j0 k (!t167) c.f0 c.f1 c.f2 c.f3 d.f0 d.f1 d.f2 d.f3)) else (minstrellaw07_CodeEncodes.j0 k true c.f0 c.f1 c.f2 c.f3 d.f0 d.f1 d.f2 d.f3))) (fun k => by unfold minstrellaw07_CodeEncodes.f; rfl) (Ev.bind hs ?_)
  cases ok with
  | false => simpa only [Bool.false_eq_true, if_false] using j0true
  | true =>
    simp only [if_true]
    refine Ev.bind hs2 ?_
    cases ok2 with
    | false => simpa only [Bool.not_false] using j0true
    | true =>
      obtain ⟨K1, hd1, hB1⟩ := hok rfl
      obtain ⟨K2, hd2, hB2⟩ := hok2 rfl
      have hD1 := dep_le hd1 (Nat.le_max_left K1 K2)
      have hD2 := dep_le hd2 (Nat.le_max_right K1 K2)
      generalize max K1 K2 = K at hD1 hD2
      have ho1 := own_ev K1 c hd1 hB1
      have ho2 := own_ev K2 d hd2 hB2
      obtain ⟨⟨xs, e0⟩, hw1⟩ := wrCell_some K c 0 [] hD1
      have hE1 := enc_ev hw1
      have hE2 := refEnc_ev hc zc hw1
      obtain ⟨r, hr⟩ := sameC_some K c d hD1
      have hsm := same_eq K c d r (len_of_wfc K c (hc K)) hr
      have hcs := codeSame_ev hr
      have hput : (if ((xs, e0) : List Int × Int).2 = 0 then (xs, (0 : Int)) else ([], e0)) = put2 (xs, e0) := rfl
      rw [hput] at hE1
      generalize hp : put2 (xs, e0) = p at hE1 hE2
      have hrr : (r != r) = false := by cases r <;> rfl
      refine Ev.step (f := fun k => (minstrelref07_Own.f k c.f0 c.f1 c.f2 c.f3).bind fun bt169 => ((code_Encode.f k bt169.1 bt169.2.1 bt169.2.2.1 bt169.2.2.2).bind fun bt175 => ((minstrelref07_Encode.f k c.f0 c.f1 c.f2 c.f3).bind fun bt179 => (if (strOfNums bt175.1).toList = (strOfNums bt179.1).toList then (if bt175.2 = bt179.2 then ((minstrelref07_Own.f k c.f0 c.f1 c.f2 c.f3).bind fun bt183 => ((minstrelref07_Own.f k d.f0 d.f1 d.f2 d.f3).bind fun bt189 => ((code_Same.f k bt183.1 bt183.2.1 bt183.2.2.1 bt183.2.2.2 bt189.1 bt189.2.1 bt189.2.2.1 bt189.2.2.2).bind fun t195 => ((minstrelref07_Same.f k c.f0 c.f1 c.f2 c.f3 d.f0 d.f1 d.f2 d.f3).bind fun t196 => (minstrellaw07_CodeEncodes.j1 k bt175.1 bt175.2 (t195 != t196) c.f0 c.f1 c.f2 c.f3))))) else (minstrellaw07_CodeEncodes.j1 k bt175.1 bt175.2 true c.f0 c.f1 c.f2 c.f3)) else (minstrellaw07_CodeEncodes.j1 k bt175.1 bt175.2 true c.f0 c.f1 c.f2 c.f3))))) (fun k => by rw [minstrellaw07_CodeEncodes.j0, if_neg (by decide)]) (Ev.bind ho1 (Ev.bind hE1 (Ev.bind hE2 ?_)))
      simp only [if_true]
      refine Ev.bind ho1 (Ev.bind ho2 (Ev.bind hcs (Ev.bind hsm ?_)))
      rw [hrr]
      by_cases he : e0 = 0
      · subst he
        obtain rfl : (xs, (0 : Int)) = p := hp
        obtain ⟨e1, hy1, hyl1, hW1⟩ := wr_read K c 0 [] xs hc hw1
        rw [List.nil_append] at hy1
        subst hy1
        have hwh := hW1.whole []
        rw [List.append_nil] at hwh
        have hdec := dec_ev hyl1 hwh
        have hdr : decR (nrm K c, ([] : List Int), (0 : Int)) = ((nrm K c).f0, (nrm K c).f1, (nrm K c).f2, (nrm K c).f3, 0) := rfl
        rw [hdr] at hdec
        have hsn := same_eq K (nrm K c) c true (len_nrm K K c (fun j => len_of_wfc j c (hc j))) (same_nrm K c (wr_ok _ _ _ _ _ hw1))
        refine Ev.step (f := fun k => (code_Decode.f k xs).bind fun bt197 => ((minstrelref07_Same.f k bt197.1 bt197.2.1 bt197.2.2.1 bt197.2.2.2.1 c.f0 c.f1 c.f2 c.f3).bind fun t205 => (if t205 = true then (if bt197.2.2.2.2 = 0 then ((minstrellaw07_lives.f k).bind fun t206 => (some t206)) else (some false)) else (some false)))) (fun k => by rw [minstrellaw07_CodeEncodes.j1, if_neg (by decide), if_pos rfl]) (Ev.bind hdec (Ev.bind hsn ?_))
        simp only [if_true]
        exact Ev.bind hll (Ev.now _)
      · obtain rfl : (([] : List Int), e0) = p := by rw [← hp, put2, if_neg he]
        refine Ev.step (f := fun k => (minstrellaw07_lives.f k).bind fun t207 => (some t207)) (fun k => ?_) (Ev.bind hll (Ev.now _))
        rw [minstrellaw07_CodeEncodes.j1, if_neg (by decide), if_neg he, if_pos (by simp)]
end Go.Proofs.Ytjcaieecafggiaa.Pure
