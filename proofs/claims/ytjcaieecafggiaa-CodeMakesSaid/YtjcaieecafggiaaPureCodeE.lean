/- The plain part of the laws on cells: what is written is read as it was, and no front part of it. -/
import Derived.Test.YtjcaieecafggiaaPureCodeB
import Derived.Test.YtjcaieecafggiaaOpenCell
namespace Go.Proofs.Ytjcaieecafggiaa.Pure
open Go.RowKit Go.Proofs.Ytjcaieecafggiaa.Pr Go.Proofs.YtjcaieecafggiaaW.PrintWords Go.Proofs.YtjcaieecafggiaaW.PrintLast Go.Proofs.YtjcaieecafggiaaW.PrintMore
set_option linter.unusedVariables false
set_option linter.unusedSimpArgs false
/-- What of a cell is written. -/
def nrm : Nat → S26 → S26
  | 0, c => c
  | k + 1, c => if c.f0 = 0 then ⟨0, c.f1, ⟨#[]⟩, []⟩ else if c.f0 = 1 then ⟨1, 0, c.f2, []⟩ else ⟨2, 0, ⟨#[]⟩, c.f3.map (nrm k)⟩
/-- e is written behind others, and is read as c whatever is behind; a front part of it ends too early. -/
structure WR (rd : List Int → Option (S26 × List Int × Int)) (c : S26) (e : List Int) : Prop where
  bts : Bts e
  one : 1 ≤ e.length
  whole : ∀ rest, rd (e ++ rest) = some (c, rest, 0)
  front : ∀ n, n < e.length → ∃ z r, rd (e.take n) = some (z, r, 3)
theorem lookC_le {n : Nat} (h : lookC n = 0) : n ≤ 1048576 := by
  unfold lookC at h
  split at h
  · cases h
  · omega
theorem fold_read {f : List Int → Option (S26 × List Int × Int)} {g : S26 → List Int → Option (List Int × Int)} {nm : S26 → S26} {ok : S26 → Prop}
    (hf : ∀ x xs ys, ok x → g x xs = some (ys, 0) → ∃ e, ys = xs ++ e ∧ ys.length ≤ 1048576 ∧ WR f (nm x) e) :
    ∀ (L : List S26) (xs ys : List Int), (∀ x ∈ L, ok x) → xs.length ≤ 1048576 → foldW g L xs = some (ys, 0) →
      ∃ e, ys = xs ++ e ∧ ys.length ≤ 1048576 ∧ Bts e ∧ L.length ≤ e.length ∧ (∀ acc rest, foldR f L.length acc (e ++ rest) = some (acc ++ L.map nm, rest, 0)) ∧
        (∀ n, n < e.length → ∀ acc, ∃ z r, foldR f L.length acc (e.take n) = some (z, r, 3))
  | [], xs, ys, hok, hx, h => by
    simp only [foldW, Option.some.injEq, Prod.mk.injEq, and_true] at h
    subst h
    exact ⟨[], by simp, hx, Bts.nil, by simp, fun acc rest => by simp [foldR], fun n hn => by simp at hn⟩
  | x :: L, xs, ys, hok, hx, h => by
    simp only [foldW] at h
    obtain ⟨⟨zs, e1⟩, h1, h2⟩ := Option.bind_eq_some_iff.mp h
    by_cases he : e1 = 0
    · subst he
      rw [if_pos rfl] at h2
      obtain ⟨ex, rfl, hl, hw⟩ := hf x xs zs (hok x (List.mem_cons_self ..)) h1
      obtain ⟨eL, hy, hyl, hb, hlen, hr, hfr⟩ := fold_read hf L _ ys (fun y hy => hok y (List.mem_cons_of_mem _ hy)) hl h2
      refine ⟨ex ++ eL, by rw [hy, List.append_assoc], hyl, hw.bts.append hb, ?_, fun acc rest => ?_, fun n hn acc => ?_⟩
      · have := hw.one
        rw [List.length_append, List.length_cons]; omega
      · rw [List.length_cons, List.append_assoc]
        simp only [foldR, hw.whole, Option.bind_some, if_true]
        rw [hr]
        simp
      · rw [List.length_cons]
        rw [List.length_append] at hn
        by_cases hlt : n < ex.length
        · obtain ⟨z, r, hz⟩ := hw.front n hlt
          rw [List.take_append_of_le_length (by omega)]
          simp only [foldR, hz, Option.bind_some]
          rw [if_neg (by decide)]
          exact ⟨_, _, rfl⟩
        · rw [List.take_append, List.take_of_length_le (by omega)]
          simp only [foldR, hw.whole, Option.bind_some, if_true]
          exact hfr (n - ex.length) (by omega) _
    · rw [if_neg he] at h2
      simp only [Option.some.injEq, Prod.mk.injEq] at h2
      exact absurd h2.2 he
theorem beB4 {n : Int} (h0 : 0 ≤ n) (h1 : n < 4294967296) (rest : List Int) : ((beB n 4 ++ rest).take 4 = beB n 4) ∧ ((beB n 4 ++ rest).drop 4 = rest) ∧ wrap64 (numR (beB n 4) 0) = n := by
  have hl := beB_length n 4
  refine ⟨by rw [List.take_append_of_le_length (by omega), List.take_of_length_le (by omega)], by rw [List.drop_append_of_le_length (by omega), List.drop_of_length_le (by omega), List.nil_append], ?_⟩
  have h := take4 (bs := beB n 4) (beB_bts n h0 4) (by omega)
  rw [List.take_of_length_le (by omega)] at h
  rw [h.2.2.2, be4' n h0 h1, wrap64_in _ (by omega) (by omega)]
theorem take_short {bs : List Int} {n m : Nat} (h : n < m) : (bs.take n).length < m := by rw [List.length_take]; omega
theorem wr_read : ∀ (k : Nat) (c : S26) (deep : Nat) (xs ys : List Int), (∀ j, wfc j c) → wrCell k c deep xs = some (ys, 0) → ∃ e, ys = xs ++ e ∧ ys.length ≤ 1048576 ∧ WR (fun bs => rdCell k deep bs) (nrm k c) e
  | 0, c, deep, xs, ys, hw, h => by simp [wrCell] at h
  | k + 1, c, deep, xs, ys, hw, h => by
    have hw1 := hw 1
    simp only [wfc] at hw1
    obtain ⟨hf0, hf1, hf2, hf3, _⟩ := hw1
    have hf1' : 0 ≤ c.f1 ∧ c.f1 < 18446744073709551616 := by
      simp [Lit.wf, IntKind.min, IntKind.max, IntKind.signed, IntKind.bits] at hf1
      omega
    clear hf0 hf1
    have nil3 : ∃ z r, rdCell (k + 1) deep [] = some (z, r, 3) := ⟨_, _, by rw [rdCell]⟩
    simp only [wrCell] at h
    by_cases h0 : c.f0 = 0
    · rw [if_pos h0] at h
      simp only [Option.some.injEq, Prod.mk.injEq] at h
      obtain ⟨rfl, hl⟩ := h
      have hl' := lookC_le hl
      have hb8 := beB_length c.f1 8
      have ht := take8 (bs := beB c.f1 8) (beB_bts c.f1 hf1'.1 8) (by omega)
      rw [List.take_of_length_le (by omega)] at ht
      refine ⟨_, rfl, by rw [List.length_append, List.length_cons, hb8]; omega, Bts.cons (by omega) (beB_bts _ hf1'.1 _), by simp, fun rest => ?_, fun n hn => ?_⟩
      · have e1 : (beB c.f1 8 ++ rest).take 8 = beB c.f1 8 := by rw [List.take_append_of_le_length (by omega), List.take_of_length_le (by omega)]
        have e2 : (beB c.f1 8 ++ rest).drop 8 = rest := by rw [List.drop_append_of_le_length (by omega), List.drop_of_length_le (by omega), List.nil_append]
        have e3 : ¬ (beB c.f1 8 ++ rest).length < 8 := by rw [List.length_append]; omega
        show rdCell (k + 1) deep (0 :: (beB c.f1 8 ++ rest)) = _
        rw [rdCell, wrap64_in 0 (by omega) (by omega), if_pos rfl, if_neg e3, e1, e2, ht.2.2.2, be8' _ hf1'.1 hf1'.2, nrm, if_pos h0]
      · rw [List.length_cons, hb8] at hn
        cases n with
        | zero => exact nil3
        | succ n =>
          show ∃ z r, rdCell (k + 1) deep (0 :: (beB c.f1 8).take n) = some (z, r, 3)
          rw [rdCell, wrap64_in 0 (by omega) (by omega), if_pos rfl, if_pos (take_short (by omega))]
          exact ⟨_, _, rfl⟩
    · rw [if_neg h0] at h
      by_cases h1 : c.f0 = 1
      · rw [if_pos h1] at h
        by_cases hs : 1048576 < c.f2.size
        · rw [if_pos hs] at h; simp at h
        · rw [if_neg hs] at h
          by_cases hl5 : lookC (xs.length + 5) = 0
          · rw [if_pos hl5] at h
            simp only [Option.some.injEq, Prod.mk.injEq] at h
            obtain ⟨rfl, hl⟩ := h
            have hl' := lookC_le hl
            have hb4 := beB_length c.f2.size 4
            have hbs : (bytesOf c.f2).length = c.f2.size := bytesOf_length c.f2
            have hB := beB4 (n := (c.f2.size : Int)) (by omega) (by omega)
            have hbt : Bts (beB (c.f2.size : Int) 4) := beB_bts _ (by omega) 4
            refine ⟨1 :: (beB c.f2.size 4 ++ bytesOf c.f2), by simp, by simp only [List.length_append, List.length_cons, hb4, hbs]; omega, Bts.cons (by omega) (hbt.append (bytesOf_bts _)), by simp, fun rest => ?_, fun n hn => ?_⟩
            · show rdCell (k + 1) deep (1 :: (beB c.f2.size 4 ++ bytesOf c.f2 ++ rest)) = _
              have hB' := Aside0.mk (hB (bytesOf c.f2 ++ rest))
              rw [rdCell, wrap64_in 1 (by omega) (by omega), if_neg (by decide), if_pos rfl, List.append_assoc, if_neg (by rw [List.length_append]; omega), hB'.out.1, hB'.out.2.1, hB'.out.2.2, if_pos (by omega), if_neg (by rw [List.length_append]; omega), Int.toNat_natCast,
                List.take_append_of_le_length (by omega), List.take_of_length_le (by omega), List.drop_append_of_le_length (by omega), List.drop_of_length_le (by omega), List.nil_append, strOfNums_bytesOf, nrm, if_neg h0, if_pos h1]
            · rw [List.length_cons, List.length_append, hb4, hbs] at hn
              cases n with
              | zero => exact nil3
              | succ n =>
                show ∃ z r, rdCell (k + 1) deep (1 :: (beB c.f2.size 4 ++ bytesOf c.f2).take n) = some (z, r, 3)
                rw [rdCell, wrap64_in 1 (by omega) (by omega), if_neg (by decide), if_pos rfl]
                by_cases hn4 : n < 4
                · rw [if_pos (take_short hn4)]; exact ⟨_, _, rfl⟩
                · rw [List.take_append, List.take_of_length_le (by omega)]
                  have hB' := Aside0.mk (hB ((bytesOf c.f2).take (n - (beB c.f2.size 4).length)))
                  rw [if_neg (by rw [List.length_append]; omega), hB'.out.1, hB'.out.2.1, hB'.out.2.2, if_pos (by omega), if_pos (by rw [List.length_take]; omega)]
                  exact ⟨_, _, rfl⟩
          · rw [if_neg hl5] at h; simp at h
      · rw [if_neg h1] at h
        by_cases h2 : c.f0 = 2
        · rw [if_pos h2] at h
          by_cases hd : 64 < deep + 1
          · rw [if_pos hd] at h; simp at h
          · rw [if_neg hd] at h
            by_cases hs : 1048576 < c.f3.length
            · rw [if_pos hs] at h; simp at h
            · rw [if_neg hs] at h
              by_cases hl5 : lookC (xs.length + 5) = 0
              · rw [if_pos hl5] at h
                have hl5' := lookC_le hl5
                have hb4 := beB_length c.f3.length 4
                have hbt : Bts (beB (c.f3.length : Int) 4) := beB_bts _ (by omega) 4
                obtain ⟨e, rfl, hyl, hbe, hle, hr, hfr⟩ := fold_read (f := fun bs => rdCell k (deep + 1) bs) (nm := nrm k) (ok := fun x => ∀ j, wfc j x)
                  (fun x xs ys hx hg => wr_read k x (deep + 1) xs ys hx hg) c.f3 _ ys (fun x hx j => (hw (j + 1)).2.2.2.2 x hx) (by simp only [List.length_append, List.length_cons, hb4]; omega) h
                have hB := beB4 (n := (c.f3.length : Int)) (by omega) (by omega)
                refine ⟨2 :: (beB c.f3.length 4 ++ e), by simp, hyl, Bts.cons (by omega) (hbt.append hbe), by simp, fun rest => ?_, fun n hn => ?_⟩
                · show rdCell (k + 1) deep (2 :: (beB c.f3.length 4 ++ e ++ rest)) = _
                  have hB' := Aside0.mk (hB (e ++ rest))
                  rw [rdCell, wrap64_in 2 (by omega) (by omega), if_neg (by decide), if_neg (by decide), if_pos rfl, if_neg hd, List.append_assoc, if_neg (by rw [List.length_append]; omega), hB'.out.1, hB'.out.2.1, hB'.out.2.2, if_neg (by rw [List.length_append]; omega), Int.toNat_natCast, hr, nrm, if_neg h0, if_neg h1]
                  simp
                · rw [List.length_cons, List.length_append, hb4] at hn
                  cases n with
                  | zero => exact nil3
                  | succ n =>
                    show ∃ z r, rdCell (k + 1) deep (2 :: (beB c.f3.length 4 ++ e).take n) = some (z, r, 3)
                    rw [rdCell, wrap64_in 2 (by omega) (by omega), if_neg (by decide), if_neg (by decide), if_pos rfl, if_neg hd]
                    by_cases hn4 : n < 4
                    · rw [if_pos (take_short hn4)]; exact ⟨_, _, rfl⟩
                    · rw [List.take_append, List.take_of_length_le (by omega)]
                      have hB' := Aside0.mk (hB (e.take (n - (beB c.f3.length 4).length)))
                      rw [if_neg (by rw [List.length_append]; omega), hB'.out.1, hB'.out.2.1, hB'.out.2.2]
                      split
                      · exact ⟨_, _, rfl⟩
                      · rw [Int.toNat_natCast]
                        obtain ⟨z, r, hz⟩ := hfr (n - (beB c.f3.length 4).length) (by omega) []
                        rw [hz]
                        exact ⟨_, _, rfl⟩
              · rw [if_neg hl5] at h; simp at h
        · rw [if_neg h2] at h; simp at h
end Go.Proofs.Ytjcaieecafggiaa.Pure
