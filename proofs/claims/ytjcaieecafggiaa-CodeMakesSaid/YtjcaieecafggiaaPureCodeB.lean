/- The plain part of the laws on cells: what is read is written as it was. -/
import Derived.Test.YtjcaieecafggiaaPureCodeA
namespace Go.Proofs.Ytjcaieecafggiaa.Pure
open Go.RowKit Go.Proofs.Ytjcaieecafggiaa.Pr Go.Proofs.YtjcaieecafggiaaW.PrintWords Go.Proofs.YtjcaieecafggiaaW.PrintLast Go.Proofs.YtjcaieecafggiaaW.PrintMore
set_option linter.unusedVariables false
set_option linter.unusedSimpArgs false
theorem lookC_of {n : Nat} (h : n ≤ 1048576) : lookC n = 0 := by unfold lookC; rw [if_neg (by omega)]
theorem foldR_suffix {f : List Int → Option (S26 × List Int × Int)} (hf : ∀ bs c rest e, f bs = some (c, rest, e) → ∃ pre, bs = pre ++ rest) : ∀ (n : Nat) (acc : List S26) (bs : List Int) (L : List S26) (rest : List Int) (e : Int), foldR f n acc bs = some (L, rest, e) → ∃ pre, bs = pre ++ rest
  | 0, acc, bs, L, rest, e, h => by simp only [foldR, Option.some.injEq, Prod.mk.injEq] at h; exact ⟨[], by simp [h.2.1]⟩
  | n + 1, acc, bs, L, rest, e, h => by
    simp only [foldR] at h
    obtain ⟨⟨x, r, e2⟩, h1, h2⟩ := Option.bind_eq_some_iff.mp h
    obtain ⟨p1, hp1⟩ := hf _ _ _ _ h1
    by_cases he : e2 = 0
    · rw [if_pos he] at h2
      obtain ⟨p2, hp2⟩ := foldR_suffix hf n _ _ _ _ _ h2
      exact ⟨p1 ++ p2, by rw [hp1]; simp only at hp2; rw [hp2, List.append_assoc]⟩
    · rw [if_neg he] at h2
      simp only [Option.some.injEq, Prod.mk.injEq] at h2
      exact ⟨p1, by rw [hp1, h2.2.1]⟩
theorem rdCell_suffix : ∀ (k deep : Nat) (bs : List Int) (c : S26) (rest : List Int) (e : Int), rdCell k deep bs = some (c, rest, e) → ∃ pre, bs = pre ++ rest
  | 0, deep, bs, c, rest, e, h => by simp [rdCell] at h
  | k + 1, deep, [], c, rest, e, h => by simp only [rdCell, Option.some.injEq, Prod.mk.injEq] at h; exact ⟨[], by simp [← h.2.1]⟩
  | k + 1, deep, b :: bs, c, rest, e, h => by
    simp only [rdCell] at h
    have hs : ∀ {x y : S26} {l r : List Int} {i j : Int}, some (x, l, i) = some (y, r, j) → (∃ pre, bs = pre ++ l) → ∃ pre, b :: bs = pre ++ r := by
      intro x y l r i j h1 ⟨pre, h2⟩
      simp only [Option.some.injEq, Prod.mk.injEq] at h1
      exact ⟨b :: pre, by rw [← h1.2.1, h2, List.cons_append]⟩
    have h0 : ∃ pre, bs = pre ++ bs := ⟨[], rfl⟩
    have h8 : ∃ pre, bs = pre ++ bs.drop 8 := ⟨bs.take 8, (List.take_append_drop 8 bs).symm⟩
    have hn : ∀ n, ∃ pre, bs = pre ++ (bs.drop 4).drop n := fun n => ⟨bs.take (4 + n), by rw [List.drop_drop, List.take_append_drop]⟩
    repeat' (first | split at h | (exact hs h h0) | (exact hs h h8) | (exact hs h (hn _)) | (cases h; done))
    obtain ⟨⟨L, r, e2⟩, h1, h2⟩ := Option.map_eq_some_iff.1 h
    obtain ⟨p, hp⟩ := foldR_suffix (fun bs c rest e => rdCell_suffix k (deep + 1) bs c rest e) _ _ _ _ _ _ h1
    exact hs (congrArg some h2) ⟨bs.take 4 ++ p, by rw [List.append_assoc, ← hp, List.take_append_drop]⟩
theorem Bts.suffix {bs pre rest : List Int} (h : Bts bs) (e : bs = pre ++ rest) : Bts rest := fun x hx => h x (by rw [e]; exact List.mem_append_right _ hx)
theorem foldR_some {f : List Int → Option (S26 × List Int × Int)} (hs : ∀ bs c rest e, f bs = some (c, rest, e) → ∃ pre, bs = pre ++ rest) (hf : ∀ bs, Bts bs → ∃ r, f bs = some r) : ∀ (n : Nat) (acc : List S26) (bs : List Int), Bts bs → ∃ r, foldR f n acc bs = some r
  | 0, acc, bs, hb => ⟨_, rfl⟩
  | n + 1, acc, bs, hb => by
    obtain ⟨⟨x, r, e2⟩, h1⟩ := hf bs hb
    obtain ⟨p1, hp1⟩ := hs _ _ _ _ h1
    simp only [foldR, h1, Option.bind_some]
    split
    · exact foldR_some hs hf n _ _ (hb.suffix hp1)
    · exact ⟨_, rfl⟩
theorem rdCell_some : ∀ (k deep : Nat) (bs : List Int), Bts bs → deep ≤ 64 → 65 ≤ k + deep → ∃ r, rdCell k deep bs = some r
  | 0, deep, bs, hb, h1, h2 => by omega
  | k + 1, deep, [], hb, h1, h2 => ⟨_, rfl⟩
  | k + 1, deep, b :: bs, hb, h1, h2 => by
    have ht := hb.tail
    simp only [rdCell]
    split
    · split <;> exact ⟨_, rfl⟩
    · split
      · split
        · exact ⟨_, rfl⟩
        · rename_i h4
          have h5 := take4 ht (by omega)
          rw [if_pos (by rw [h5.2.2.2, wrap64_in _ (by omega) (by omega)]; exact h5.2.1)]
          split <;> exact ⟨_, rfl⟩
      · split
        · split
          · exact ⟨_, rfl⟩
          · rename_i h4
            split
            · exact ⟨_, rfl⟩
            · split
              · exact ⟨_, rfl⟩
              · obtain ⟨r, hr⟩ := foldR_some (fun bs c rest e => rdCell_suffix k (deep + 1) bs c rest e) (fun ys hy => rdCell_some k (deep + 1) ys hy (by omega) (by omega)) (wrap64 (numR (bs.take 4) 0)).toNat [] (bs.drop 4) (ht.drop 4)
                exact ⟨_, by rw [hr]; rfl⟩
        · exact ⟨_, rfl⟩
/-- What is read is written as it was. -/
theorem fold_back {f : List Int → Option (S26 × List Int × Int)} {g : S26 → List Int → Option (List Int × Int)} (hs : ∀ bs c rest e, f bs = some (c, rest, e) → ∃ pre, bs = pre ++ rest)
    (hf : ∀ bs c rest, Bts bs → bs.length ≤ 1048576 → f bs = some (c, rest, 0) → ∃ pre, bs = pre ++ rest ∧ ∀ xs : List Int, xs.length + pre.length ≤ 1048576 → g c xs = some (xs ++ pre, 0)) :
    ∀ (n : Nat) (acc : List S26) (bs : List Int) (L : List S26) (rest : List Int), Bts bs → bs.length ≤ 1048576 → foldR f n acc bs = some (L, rest, 0) →
      ∃ L' pre, L = acc ++ L' ∧ L'.length = n ∧ bs = pre ++ rest ∧ ∀ xs : List Int, xs.length + pre.length ≤ 1048576 → foldW g L' xs = some (xs ++ pre, 0)
  | 0, acc, bs, L, rest, hb, hl, h => by
    simp only [foldR, Option.some.injEq, Prod.mk.injEq] at h
    exact ⟨[], [], by simp [h.1], rfl, by simp [h.2.1], fun xs _ => by simp [foldW]⟩
  | n + 1, acc, bs, L, rest, hb, hl, h => by
    simp only [foldR] at h
    obtain ⟨⟨x, r, e2⟩, h1, h2⟩ := Option.bind_eq_some_iff.mp h
    by_cases he : e2 = 0
    · subst he
      rw [if_pos rfl] at h2
      obtain ⟨p1, hp1, hw⟩ := hf _ _ _ hb hl h1
      obtain ⟨L', p2, hL, hn, hp2, hw2⟩ := fold_back hs hf n _ _ _ _ (hb.suffix hp1) (by rw [hp1, List.length_append] at hl; omega) h2
      refine ⟨x :: L', p1 ++ p2, by rw [hL]; simp, by simp [hn], by rw [hp1, hp2, List.append_assoc], fun xs hx => ?_⟩
      rw [List.length_append] at hx
      simp only [foldW]
      rw [hw xs (by omega)]
      simp only [Option.bind_some, if_true]
      rw [hw2 (xs ++ p1) (by rw [List.length_append]; omega), List.append_assoc]
    · rw [if_neg he] at h2
      simp only [Option.some.injEq, Prod.mk.injEq] at h2
      exact absurd h2.2.2 he
theorem rd_back : ∀ (k deep : Nat) (bs : List Int) (c : S26) (rest : List Int), Bts bs → bs.length ≤ 1048576 → rdCell k deep bs = some (c, rest, 0) →
    ∃ pre, bs = pre ++ rest ∧ ∀ xs : List Int, xs.length + pre.length ≤ 1048576 → wrCell k c deep xs = some (xs ++ pre, 0)
  | 0, deep, bs, c, rest, hb, hl, h => by simp [rdCell] at h
  | k + 1, deep, [], c, rest, hb, hl, h => by simp [rdCell] at h
  | k + 1, deep, b :: bs, c, rest, hb, hl, h => by
    have ht := hb.tail
    have hh := hb.head
    have hw : wrap64 b = b := wrap64_in b (by omega) (by omega)
    rw [List.length_cons] at hl
    simp only [rdCell, hw] at h
    split at h
    · rename_i h0
      subst h0
      split at h
      · simp at h
      · rename_i h8
        simp only [Option.some.injEq, Prod.mk.injEq, and_true] at h
        obtain ⟨rfl, rfl⟩ := h
        have h5 := take8 ht (by omega)
        refine ⟨0 :: bs.take 8, by rw [List.cons_append, List.take_append_drop], fun xs hx => ?_⟩
        have hlen : (bs.take 8).length = 8 := by rw [List.length_take]; omega
        rw [List.length_cons, hlen] at hx
        simp only [wrCell, if_true]
        rw [h5.2.2.2, h5.1, lookC_of (by omega)]
    · split at h
      · rename_i h1
        subst h1
        split at h
        · simp at h
        · rename_i h4
          have h5 := take4 ht (by omega)
          have hwn : wrap64 (numR (bs.take 4) 0) = beV (bs.take 4) 0 := by rw [h5.2.2.2, wrap64_in _ (by omega) (by omega)]
          rw [hwn, if_pos h5.2.1] at h
          split at h
          · simp at h
          · rename_i hn
            simp only [Option.some.injEq, Prod.mk.injEq, and_true] at h
            obtain ⟨rfl, rfl⟩ := h
            have hsz : (strOfNums ((bs.drop 4).take (beV (bs.take 4) 0).toNat)).size = (beV (bs.take 4) 0).toNat := by rw [strOfNums_size, List.length_take]; omega
            have hcast : (((beV (bs.take 4) 0).toNat : Nat) : Int) = beV (bs.take 4) 0 := by omega
            have hlen : (bs.take 4).length = 4 := by rw [List.length_take]; omega
            have hl2 : ((bs.drop 4).take (beV (bs.take 4) 0).toNat).length = (beV (bs.take 4) 0).toNat := by rw [List.length_take]; omega
            rw [List.length_drop] at hn
            refine ⟨1 :: (bs.take 4 ++ (bs.drop 4).take (beV (bs.take 4) 0).toNat), by rw [List.cons_append, List.append_assoc, List.take_append_drop, List.take_append_drop], fun xs hx => ?_⟩
            rw [List.length_cons, List.length_append, hlen, hl2] at hx
            simp only [wrCell, hsz]
            rw [if_neg (by omega), if_pos trivial, if_neg (by omega), lookC_of (by omega), if_pos rfl, bytesOf_str ((ht.drop 4).take _), lookC_of (by omega), hcast, h5.1]
            simp
      · split at h
        · rename_i h2
          subst h2
          split at h
          · simp at h
          · rename_i hd
            split at h
            · simp at h
            · rename_i h4
              have h5 := take4 ht (by omega)
              have hwn : wrap64 (numR (bs.take 4) 0) = beV (bs.take 4) 0 := by rw [h5.2.2.2, wrap64_in _ (by omega) (by omega)]
              rw [hwn] at h
              split at h
              · simp at h
              · rename_i hn
                rw [List.length_drop] at hn
                obtain ⟨⟨L, r, e2⟩, h6, h7⟩ := Option.map_eq_some_iff.1 h
                simp only [Prod.mk.injEq] at h7
                obtain ⟨rfl, rfl, rfl⟩ := h7
                obtain ⟨L', p, hL, hn2, hp, hw2⟩ := fold_back (fun bs c rest e => rdCell_suffix k (deep + 1) bs c rest e) (fun ys c rest hy hyl hr => rd_back k (deep + 1) ys c rest hy hyl hr) _ _ _ _ _ (ht.drop 4) (by rw [List.length_drop]; omega) h6
                simp only [List.nil_append] at hL
                subst hL
                have hlen : (bs.take 4).length = 4 := by rw [List.length_take]; omega
                have hcast : ((L.length : Nat) : Int) = beV (bs.take 4) 0 := by rw [hn2]; omega
                refine ⟨2 :: (bs.take 4 ++ p), by rw [List.cons_append, List.append_assoc, ← hp, List.take_append_drop], fun xs hx => ?_⟩
                rw [List.length_cons, List.length_append, hlen] at hx
                simp only [wrCell]
                rw [if_neg (by omega), if_neg (by omega), if_pos trivial, if_neg hd, if_neg (by omega), lookC_of (by omega), if_pos rfl, hcast, h5.1, hw2 _ (by simp only [List.length_append, List.length_cons, hlen]; omega)]
                simp
        · simp at h
end Go.Proofs.Ytjcaieecafggiaa.Pure
