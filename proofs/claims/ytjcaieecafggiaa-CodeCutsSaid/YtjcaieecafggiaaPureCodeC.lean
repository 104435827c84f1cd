/- The plain part of the laws on cells: the reference reads the same. -/
import Derived.Test.YtjcaieecafggiaaPureCodeB
import Derived.Test.YtjcaieecafggiaaPr2
namespace Go.Proofs.Ytjcaieecafggiaa.Pure
open Go.RowKit Go.Proofs.Ytjcaieecafggiaa.Pr Go.Proofs.YtjcaieecafggiaaW.PrintWords Go.Proofs.YtjcaieecafggiaaW.PrintLast Go.Proofs.YtjcaieecafggiaaW.PrintMore
set_option linter.unusedVariables false
set_option linter.unusedSimpArgs false
theorem number_l0 (xs : List Int) (hb : Bts xs) (hl : xs.length ≤ 8) : ∀ (d k i m : Nat) (n : Int), i + d = xs.length → d < k → 0 ≤ n → n < 256 ^ m → m ≤ i → minstrelref07_number.l0 k xs n (i : Int) = some (beV (xs.drop i) n)
  | 0, k, i, m, n, hi, hk, h0, h1, hm => by
    obtain ⟨k, rfl⟩ : ∃ j, k = j + 1 := ⟨k - 1, by omega⟩
    rw [minstrelref07_number.l0, if_neg (by omega), List.drop_eq_nil_of_le (by omega)]
    rfl
  | d + 1, k, i, m, n, hi, hk, h0, h1, hm => by
    obtain ⟨k, rfl⟩ : ∃ j, k = j + 1 := ⟨k - 1, by omega⟩
    have hlt : i < xs.length := by omega
    have hx : rd xs (i : Int) = xs[i] := by
      unfold rd
      rw [Int.toNat_natCast, List.getD_eq_getElem?_getD, List.getElem?_eq_getElem hlt]
      rfl
    have hbx := hb xs[i] (List.getElem_mem _)
    have hn : n < 72057594037927936 := Int.lt_of_lt_of_le h1 (by
      have h7 : (256 : Nat) ^ m ≤ 256 ^ 7 := Nat.pow_le_pow_right (by decide) (show m ≤ 7 by omega)
      have h8 : ((256 ^ m : Nat) : Int) ≤ ((72057594037927936 : Nat) : Int) := Int.ofNat_le.2 h7
      rwa [Int.natCast_pow] at h8)
    rw [minstrelref07_number.l0, if_pos (by omega), if_pos (by omega), hx, IntWalk.u64_in (n * 256) (by omega), IntWalk.u64_in xs[i] (by omega), IntWalk.u64_in (n * 256 + xs[i]) (by omega), wrap64_in _ (by omega) (by omega),
      show ((i : Int) + 1) = ((i + 1 : Nat) : Int) by omega, number_l0 xs hb hl d k (i + 1) (m + 1) _ (by omega) (by omega) (by omega) (by rw [Int.pow_succ]; omega) (by omega), List.drop_eq_getElem_cons hlt, beV]
theorem number_eq (xs : List Int) (hb : Bts xs) (hl : xs.length ≤ 8) : Ev (fun k => minstrelref07_number.f k xs) (beV xs 0) :=
  ⟨xs.length + 1, fun k hk => by
    have := number_l0 xs hb hl xs.length k 0 0 0 (by omega) (by omega) (by decide) (by decide) (Nat.le_refl _)
    rw [List.drop_zero] at this
    exact this⟩
/-- What the reference answers. -/
def outR (bs : List Int) (r : S26 × List Int × Int) : Int × Int × ByteArray × (List S26) × Int × Int :=
  if r.2.2 = 0 then (r.1.f0, r.1.f1, r.1.f2, r.1.f3, ((bs.length - r.2.1.length : Nat) : Int), 0) else (0, 0, ⟨#[]⟩, [], 0, r.2.2)
theorem drop_of_suffix {bs pre rest : List Int} {n : Nat} (h : bs.drop n = pre ++ rest) (hn : n ≤ bs.length) : rest = bs.drop (bs.length - rest.length) ∧ bs.length - rest.length ≤ bs.length ∧ n ≤ bs.length - rest.length := by
  have hl := congrArg List.length h
  rw [List.length_drop, List.length_append] at hl
  refine ⟨?_, by omega, by omega⟩
  have h2 : rest = (bs.drop n).drop pre.length := by rw [h, List.drop_left]
  rw [List.drop_drop] at h2
  rw [show bs.length - rest.length = n + pre.length by omega]
  exact h2
theorem read_loop (bs : List Int) (hl : bs.length ≤ 1048576) (K deep : Nat) (hd : deep + 1 ≤ 64)
    (ih : ∀ (n : Nat) (c : S26) (rest : List Int) (e : Int), n ≤ bs.length → rdCell K (deep + 1) (bs.drop n) = some (c, rest, e) → Ev (fun k => minstrelref07_read.f k bs (n : Int) ((deep + 1 : Nat) : Int)) (outR bs (c, rest, e)))
    (N b x y : Int) (s : ByteArray) (hN : 0 ≤ N ∧ N ≤ 1048576) :
    ∀ (m n : Nat) (i : Int) (acc L : List S26) (rest : List Int) (e : Int), n ≤ bs.length → 0 ≤ i → i + m = N → (acc.length : Int) = i → foldR (fun ys => rdCell K (deep + 1) ys) m acc (bs.drop n) = some (L, rest, e) →
      Ev (fun k => minstrelref07_read.l0 k bs (n : Int) (deep : Int) N i b x s acc) (if e = 0 then (b, x, s, L, ((bs.length - rest.length : Nat) : Int), 0) else (0, 0, ⟨#[]⟩, [], 0, e))
  | 0, n, i, acc, L, rest, e, hn, hi, him, hacc, h => by
    simp only [foldR, Option.some.injEq, Prod.mk.injEq] at h
    obtain ⟨rfl, rfl, rfl⟩ := h
    refine Ev.step (f := fun k => some (b, x, s, acc, (n : Int), 0)) (fun k => ?_) ?_
    · rw [minstrelref07_read.l0, wrap64_in N (by omega) (by omega), if_neg (by omega)]
    · rw [if_pos rfl, List.length_drop, show bs.length - (bs.length - n) = n by omega]
      exact Ev.now _
  | m + 1, n, i, acc, L, rest, e, hn, hi, him, hacc, h => by
    simp only [foldR] at h
    obtain ⟨⟨⟨c0, c1, c2, c3⟩, r, e2⟩, h1, h2⟩ := Option.bind_eq_some_iff.mp h
    obtain ⟨pre, hpre⟩ := rdCell_suffix _ _ _ _ _ _ h1
    obtain ⟨hr1, hr2, hr3⟩ := drop_of_suffix hpre hn
    refine Ev.step (f := fun k => (minstrelref07_read.f k bs (n : Int) (wrap64 ((deep : Int) + 1))).bind fun bt108 => (if bt108.2.2.2.2.2 = 0 then (if acc.length < 2513169434916 then (minstrelref07_read.l0 k bs bt108.2.2.2.2.1 deep N (wrap64 (i + 1)) b x s (acc ++ [(⟨bt108.1, bt108.2.1, bt108.2.2.1, bt108.2.2.2.1⟩ : S26)])) else (none)) else (some (0, 0, (⟨#[]⟩ : ByteArray), ([] : List (S26)), 0, bt108.2.2.2.2.2)))) (fun k => ?_) ?_
    · rw [minstrelref07_read.l0, wrap64_in N (by omega) (by omega), if_pos (by omega)]
    · have hw : wrap64 ((deep : Int) + 1) = ((deep + 1 : Nat) : Int) := by rw [wrap64_in _ (by omega) (by omega)]; omega
      rw [hw]
      clear hw
      refine Ev.bind (ih n ⟨c0, c1, c2, c3⟩ r e2 hn h1) ?_
      unfold outR
      simp only
      by_cases he : e2 = 0
      · subst he
        rw [if_pos rfl] at h2
        simp only [if_true]
        have HW2 : Aside0 (wrap64 (i + 1) = i + 1) := ⟨wrap64_in _ (by omega) (by omega)⟩
        have := read_loop bs hl K deep hd ih N b x y s hN m (bs.length - r.length) (i + 1) (acc ++ [⟨c0, c1, c2, c3⟩]) L rest e hr2 (by omega) (by omega) (by rw [List.length_append, List.length_singleton]; omega) (by rw [← hr1]; exact h2)
        refine Ev.congr (fun k => ?_) this
        rw [if_pos (by omega), HW2.out]
      · rw [if_neg he] at h2
        simp only [Option.some.injEq, Prod.mk.injEq] at h2
        obtain ⟨rfl, rfl, rfl⟩ := h2
        simp only [if_neg he]
        exact Ev.now _
theorem drop_cons {bs : List Int} {n : Nat} (h : n < bs.length) : bs.drop n = bs[n] :: bs.drop (n + 1) := List.drop_eq_getElem_cons h
theorem rd_get {bs : List Int} {n : Nat} (h : n < bs.length) : rd bs (n : Int) = bs[n] := by
  unfold rd
  rw [Int.toNat_natCast, List.getD_eq_getElem?_getD, List.getElem?_eq_getElem h]
  rfl
theorem take_drop_4 (bs : List Int) (n m : Nat) : (bs.take (n + m)).drop n = (bs.drop n).take m := by rw [List.drop_take]; congr 1; omega
set_option maxHeartbeats 1600000 in
theorem read_eq (bs : List Int) (hb : Bts bs) (hl : bs.length ≤ 1048576) : ∀ (K deep n : Nat) (c : S26) (rest : List Int) (e : Int), n ≤ bs.length → deep ≤ 64 → rdCell K deep (bs.drop n) = some (c, rest, e) →
      Ev (fun k => minstrelref07_read.f k bs (n : Int) (deep : Int)) (outR bs (c, rest, e))
  | 0, deep, n, c, rest, e, hn, hd, h => by simp [rdCell] at h
  | K + 1, deep, n, c, rest, e, hn, hd, h => by
    rcases Nat.lt_or_ge n bs.length with hlt | hge
    · rw [drop_cons hlt] at h
      have hbb := hb bs[n] (List.getElem_mem _)
      generalize hbe : bs[n] = b at *
      have HW : Aside0 (wrap64 b = b) := ⟨wrap64_in b (by omega) (by omega)⟩
      have hrd : rd bs (n : Int) = b := by rw [rd_get hlt, hbe]
      have HW1 : Aside0 (wrap64 ((n : Int) + 1) = ((n + 1 : Nat) : Int)) := ⟨by rw [wrap64_in _ (by omega) (by omega)]; omega⟩
      have htl : (bs.drop (n + 1)).length = bs.length - (n + 1) := List.length_drop
      simp only [rdCell, HW.out] at h
      by_cases hb2 : b > 2
      · rw [if_neg (by omega), if_neg (by omega), if_neg (by omega)] at h
        simp only [Option.some.injEq, Prod.mk.injEq] at h
        obtain ⟨rfl, rfl, rfl⟩ := h
        refine Ev.step (f := fun k => some (0, 0, (⟨#[]⟩ : ByteArray), ([] : List (S26)), 0, 4)) (fun k => ?_) (Ev.now _)
        rw [minstrelref07_read.f, if_neg (by omega), if_pos (by omega), if_pos (by omega), hrd, HW.out, if_pos hb2]
      · by_cases hd2 : b = 2 ∧ 64 < deep + 1
        · obtain ⟨rfl, hd3⟩ := hd2
          rw [if_neg (by decide), if_neg (by decide), if_pos rfl, if_pos hd3] at h
          simp only [Option.some.injEq, Prod.mk.injEq] at h
          obtain ⟨rfl, rfl, rfl⟩ := h
          refine Ev.step (f := fun k => minstrelref07_read.j0 k bs ((n + 1 : Nat) : Int) (deep : Int) true 2 0 ⟨#[]⟩) (fun k => ?_) (Ev.step (f := fun k => some (0, 0, (⟨#[]⟩ : ByteArray), ([] : List (S26)), 0, 2)) (fun k => ?_) (Ev.now _))
          · rw [minstrelref07_read.f, if_neg (by omega), if_pos (by omega), if_pos (by omega), hrd, HW.out, if_neg hb2, if_pos rfl, HW1.out, show decide ((deep : Int) ≥ 64) = true from decide_eq_true (by omega)]
          · rw [minstrelref07_read.j0, if_pos rfl]
        · -- the size, and the part behind it
          obtain ⟨sz, hsz⟩ : ∃ sz : Nat, sz = if b = 0 then 8 else 4 := ⟨_, rfl⟩
          have hsz8 : sz = 4 ∨ sz = 8 := by rw [hsz]; split <;> omega
          have hj : Ev (fun k => minstrelref07_read.j1 k bs ((n + 1 : Nat) : Int) (deep : Int) (sz : Int) b 0 ⟨#[]⟩) (outR bs (c, rest, e)) → Ev (fun k => minstrelref07_read.f k bs (n : Int) (deep : Int)) (outR bs (c, rest, e)) := by
            intro hev
            refine Ev.step (f := fun k => minstrelref07_read.j0 k bs ((n + 1 : Nat) : Int) (deep : Int) false b 0 ⟨#[]⟩) (fun k => ?_) (Ev.step (f := fun k => minstrelref07_read.j1 k bs ((n + 1 : Nat) : Int) (deep : Int) (sz : Int) b 0 ⟨#[]⟩) (fun k => ?_) hev)
            · rw [minstrelref07_read.f, if_neg (by omega), if_pos (by omega), if_pos (by omega), hrd, HW.out, if_neg hb2, HW1.out]
              by_cases hb22 : b = 2
              · rw [if_pos hb22, show decide ((deep : Int) ≥ 64) = false from decide_eq_false (by omega)]
              · rw [if_neg hb22]
            · rw [minstrelref07_read.j0, if_neg (by decide)]
              by_cases hb0 : b = 0
              · rw [if_pos hb0, hsz, if_pos hb0]; rfl
              · rw [if_neg hb0, hsz, if_neg hb0]; rfl
          apply hj
          clear hj
          have HW2 : Aside0 (wrap64 (((n + 1 : Nat) : Int) + (sz : Int)) = ((n + 1 + sz : Nat) : Int)) := ⟨by rw [wrap64_in _ (by omega) (by omega)]; omega⟩
          by_cases hshort : bs.length < n + 1 + sz
          · have he3 : c = z26 ∧ e = 3 := by
              by_cases hb0 : b = 0
              · rw [hsz, if_pos hb0] at hshort
                rw [if_pos hb0, if_pos (by omega)] at h
                simp only [Option.some.injEq, Prod.mk.injEq] at h
                exact ⟨h.1.symm, h.2.2.symm⟩
              · rw [hsz, if_neg hb0] at hshort
                rw [if_neg hb0] at h
                by_cases hb1 : b = 1
                · rw [if_pos hb1, if_pos (by omega)] at h
                  simp only [Option.some.injEq, Prod.mk.injEq] at h
                  exact ⟨h.1.symm, h.2.2.symm⟩
                · rw [if_neg hb1, if_pos (by omega), if_neg (by omega), if_pos (by omega)] at h
                  simp only [Option.some.injEq, Prod.mk.injEq] at h
                  exact ⟨h.1.symm, h.2.2.symm⟩
            obtain ⟨rfl, rfl⟩ := he3
            refine Ev.step (f := fun k => some (0, 0, (⟨#[]⟩ : ByteArray), ([] : List (S26)), 0, 3)) (fun k => ?_) (Ev.now _)
            rw [minstrelref07_read.j1, HW2.out, if_pos (by omega)]
          · have hcut : (bs.take ((n + 1 + sz : Nat) : Int).toNat).drop ((n + 1 : Nat) : Int).toNat = (bs.drop (n + 1)).take sz := by
              rw [Int.toNat_natCast, Int.toNat_natCast, take_drop_4]
            have hnum : Ev (fun k => minstrelref07_number.f k ((bs.drop (n + 1)).take sz)) (beV ((bs.drop (n + 1)).take sz) 0) := number_eq _ ((hb.drop _).take _) (by rw [List.length_take]; omega)
            generalize hV : beV ((bs.drop (n + 1)).take sz) 0 = V at hnum
            refine Ev.step (f := fun k => (minstrelref07_number.f k ((bs.drop (n + 1)).take sz)).bind fun t106 => (if b = 0 then (some (b, t106, (⟨#[]⟩ : ByteArray), ([] : List (S26)), ((n + 1 + sz : Nat) : Int), 0)) else (if t106 > (IntKind.u64.wrap (wrap64 ((bs.length : Int) - ((n + 1 + sz : Nat) : Int)))) then (some (0, 0, (⟨#[]⟩ : ByteArray), ([] : List (S26)), 0, 3)) else (if b = 1 then (if 0 ≤ ((n + 1 + sz : Nat) : Int) then (if ((n + 1 + sz : Nat) : Int) ≤ (wrap64 (((n + 1 + sz : Nat) : Int) + (wrap64 (t106)))) then (if (wrap64 (((n + 1 + sz : Nat) : Int) + (wrap64 (t106)))) ≤ (bs.length : Int) then (some (b, 0, strOfNums ((bs.take ((wrap64 (((n + 1 + sz : Nat) : Int) + (wrap64 (t106)))) : Int).toNat).drop (((n + 1 + sz : Nat) : Int) : Int).toNat), ([] : List (S26)), wrap64 (((n + 1 + sz : Nat) : Int) + (wrap64 (t106))), 0)) else (none)) else (none)) else (none)) else (minstrelref07_read.l0 k bs ((n + 1 + sz : Nat) : Int) deep t106 0 b 0 (⟨#[]⟩ : ByteArray) ([] : List (S26))))))) (fun k => ?_) (Ev.bind hnum ?_)
            · rw [minstrelref07_read.j1, HW2.out, if_neg (by omega), if_pos (by omega), if_pos (by omega), if_pos (by omega), hcut]
            · by_cases hb0 : b = 0
              · simp only [if_pos hb0]
                rw [hsz, if_pos hb0] at hshort hV
                rw [if_pos hb0, if_neg (by omega)] at h
                simp only [Option.some.injEq, Prod.mk.injEq] at h
                obtain ⟨rfl, rfl, rfl⟩ := h
                have h5 := take8 (hb.drop (n + 1)) (by omega)
                have : outR bs (⟨b, numR ((bs.drop (n + 1)).take 8) 0, ⟨#[]⟩, []⟩, (bs.drop (n + 1)).drop 8, 0) = (b, V, (⟨#[]⟩ : ByteArray), ([] : List (S26)), ((n + 1 + sz : Nat) : Int), 0) := by
                  unfold outR
                  simp only [if_true]
                  rw [h5.2.2.2, hV, List.length_drop, List.length_drop, hsz, if_pos hb0, show bs.length - (bs.length - (n + 1) - 8) = n + 1 + 8 by omega]
                rw [this]
                exact Ev.now _
              · simp only [if_neg hb0]
                rw [hsz, if_neg hb0] at hshort hV
                have hs4 : sz = 4 := by rw [hsz, if_neg hb0]
                subst hs4
                rw [if_neg hb0] at h
                have h5 := take4 (hb.drop (n + 1)) (by omega)
                rw [hV] at h5
                have HWN : Aside0 (wrap64 (numR ((bs.drop (n + 1)).take 4) 0) = V) := ⟨by rw [h5.2.2.2, wrap64_in _ (by omega) (by omega)]⟩
                have HWV : Aside0 (wrap64 V = V) := ⟨wrap64_in _ (by omega) (by omega)⟩
                have HU : Aside0 (IntKind.u64.wrap (wrap64 ((bs.length : Int) - ((n + 1 + 4 : Nat) : Int))) = ((bs.length - (n + 1 + 4) : Nat) : Int)) := ⟨by
                  rw [wrap64_in _ (by omega) (by omega), IntWalk.u64_in _ (by omega)]; omega⟩
                rw [HWN.out, List.length_drop] at h
                simp only [HU.out, HWV.out]
                have hdd : (bs.drop (n + 1)).drop 4 = bs.drop (n + 1 + 4) := by rw [List.drop_drop]
                rw [hdd] at h
                by_cases hb1 : b = 1
                · rw [if_pos hb1, if_neg (by omega), if_pos h5.2.1, List.length_drop] at h
                  by_cases hlong : ((bs.length - (n + 1 + 4) : Nat) : Int) < V
                  · rw [if_pos (by omega)] at h
                    simp only [Option.some.injEq, Prod.mk.injEq] at h
                    obtain ⟨rfl, rfl, rfl⟩ := h
                    simp only [if_pos (show V > ((bs.length - (n + 1 + 4) : Nat) : Int) from hlong)]
                    exact Ev.now _
                  · rw [if_neg (by omega)] at h
                    simp only [Option.some.injEq, Prod.mk.injEq] at h
                    obtain ⟨rfl, rfl, rfl⟩ := h
                    obtain ⟨v, hv⟩ : ∃ v : Nat, V = (v : Int) := Int.eq_ofNat_of_zero_le h5.2.1
                    subst hv
                    have HW3 : Aside0 (wrap64 (((n + 1 + 4 : Nat) : Int) + (v : Int)) = ((n + 1 + 4 + v : Nat) : Int)) := ⟨by rw [wrap64_in _ (by omega) (by omega)]; omega⟩
                    simp only [if_neg (show ¬ (v : Int) > ((bs.length - (n + 1 + 4) : Nat) : Int) from hlong), if_pos hb1, HW3.out]
                    rw [if_pos (by omega), if_pos (by omega), if_pos (by omega), Int.toNat_natCast, Int.toNat_natCast, take_drop_4]
                    have : outR bs (⟨b, 0, strOfNums ((bs.drop (n + 1 + 4)).take ((v : Int)).toNat), []⟩, (bs.drop (n + 1 + 4)).drop ((v : Int)).toNat, 0) = (b, 0, strOfNums ((bs.drop (n + 1 + 4)).take v), ([] : List (S26)), ((n + 1 + 4 + v : Nat) : Int), 0) := by
                      unfold outR
                      simp only [if_true, Int.toNat_natCast]
                      rw [List.length_drop, List.length_drop, show bs.length - (bs.length - (n + 1 + 4) - v) = n + 1 + 4 + v by omega]
                    rw [this]
                    exact Ev.now _
                · have hb22 : b = 2 := by omega
                  rw [if_neg hb1, if_pos hb22, if_neg (by omega), if_neg (by omega), List.length_drop] at h
                  by_cases hlong : ((bs.length - (n + 1 + 4) : Nat) : Int) < V
                  · rw [if_pos (by omega)] at h
                    simp only [Option.some.injEq, Prod.mk.injEq] at h
                    obtain ⟨rfl, rfl, rfl⟩ := h
                    simp only [if_pos (show V > ((bs.length - (n + 1 + 4) : Nat) : Int) from hlong)]
                    exact Ev.now _
                  · rw [if_neg (by omega)] at h
                    obtain ⟨⟨L, r, e2⟩, h6, h7⟩ := Option.map_eq_some_iff.1 h
                    simp only [Prod.mk.injEq] at h7
                    obtain ⟨rfl, rfl, rfl⟩ := h7
                    simp only [if_neg (show ¬ V > ((bs.length - (n + 1 + 4) : Nat) : Int) from hlong), if_neg hb1]
                    have := read_loop bs hl K deep (by omega) (fun n c rest e hn hr => read_eq bs hb hl K (deep + 1) n c rest e hn (by omega) hr) V b 0 0 ⟨#[]⟩ ⟨by omega, by omega⟩ V.toNat (n + 1 + 4) 0 [] L r e2 (by omega) (by omega) (by omega) rfl h6
                    exact this
    · have hn2 : n = bs.length := by omega
      rw [List.drop_eq_nil_of_le hge] at h
      simp only [rdCell, Option.some.injEq, Prod.mk.injEq] at h
      obtain ⟨rfl, rfl, rfl⟩ := h
      refine Ev.step (f := fun k => some (0, 0, (⟨#[]⟩ : ByteArray), ([] : List (S26)), 0, 3)) (fun k => ?_) (Ev.now _)
      rw [minstrelref07_read.f, if_pos (by omega)]
end Go.Proofs.Ytjcaieecafggiaa.Pure
