/- The plain part of the laws on cells: the document's put makes the same. -/
import Derived.Test.YtjcaieecafggiaaPureCodeE
import Derived.Test.YtjcaieecafggiaaPureCodeF
import Derived.Test.YtjcaieecafggiaaPrJ
namespace Go.Proofs.Ytjcaieecafggiaa.Pure
open Go.RowKit Go.Proofs.Ytjcaieecafggiaa.Pr Go.Proofs.YtjcaieecafggiaaW.PrintWords Go.Proofs.YtjcaieecafggiaaW.PrintLast Go.Proofs.YtjcaieecafggiaaW.PrintMore
set_option linter.unusedVariables false
set_option linter.unusedSimpArgs false
theorem byte_at (n : Int) (h0 : 0 ≤ n) (h1 : n < 18446744073709551616) (j : Nat) (hj : j ≤ 7) : (Go.bits .and .u64 (shr .u64 n (IntKind.u64.wrap (wrap64 (8 * (j : Int))))) 255) % 256 = n / 2 ^ (8 * j) % 256 := by
  rw [wrap64_in _ (by omega) (by omega), IntWalk.u64_in _ (by omega)]
  unfold shr
  rw [show (8 * (j : Int)).toNat = 8 * j by omega, show IntKind.u64.bits = 64 from rfl, Nat.min_eq_left (by omega)]
  obtain ⟨a, rfl⟩ := Int.eq_ofNat_of_zero_le h0
  have hq : ((a : Nat) : Int) / 2 ^ (8 * j) = ((a / 2 ^ (8 * j) : Nat) : Int) := by simp
  rw [hq]
  have hlt : a / 2 ^ (8 * j) < 18446744073709551616 := Nat.lt_of_le_of_lt (Nat.div_le_self _ _) (by omega)
  have h := bits_and_u64_nat (a / 2 ^ (8 * j)) 255 hlt (by omega)
  have e : (a / 2 ^ (8 * j)) &&& 255 = a / 2 ^ (8 * j) % 256 := Nat.and_two_pow_sub_one_eq_mod _ 8
  rw [e] at h
  rw [show ((255 : Int)) = ((255 : Nat) : Int) from rfl, h]
  omega
theorem bytes_loop (n : Int) (h0 : 0 ≤ n) (h1 : n < 18446744073709551616) : ∀ (j : Nat) (xs : List Int), j ≤ 8 → xs.length + j ≤ 8 → Ev (fun k => minstrelref07_bytes.l0 k n xs ((j : Int) - 1)) (xs ++ beB n j)
  | 0, xs, hj, hl => by
    refine Ev.step (f := fun k => some xs) (fun k => ?_) (by rw [beB, List.append_nil]; exact Ev.now _)
    rw [minstrelref07_bytes.l0, if_neg (by omega)]
  | j + 1, xs, hj, hl => by
    have e1 : ((j + 1 : Nat) : Int) - 1 = (j : Int) := by omega
    have hb := byte_at n h0 h1 j (by omega)
    have e2 : 0 ≤ IntKind.u64.wrap (wrap64 (8 * (j : Int))) := by rw [wrap64_in _ (by omega) (by omega), IntWalk.u64_in _ (by omega)]; omega
    have e3 : wrap64 ((j : Int) - 1) = (j : Int) - 1 := wrap64_in _ (by omega) (by omega)
    have A := Aside0.mk (And.intro hb (And.intro e2 e3))
    clear hb e2 e3
    rw [e1, beB]
    have := bytes_loop n h0 h1 j (xs ++ [n / 2 ^ (8 * j) % 256]) (by omega) (by rw [List.length_append, List.length_singleton]; omega)
    rw [List.append_assoc] at this
    refine Ev.step (fun k => ?_) this
    rw [minstrelref07_bytes.l0, if_pos (by omega), if_pos A.out.2.1, if_pos (by omega), A.out.1, A.out.2.2]
theorem bytes_ev (n : Int) (h0 : 0 ≤ n) (h1 : n < 18446744073709551616) (m : Nat) (hm : m ≤ 8) : Ev (fun k => minstrelref07_bytes.f k n m) (beB n m) := by
  have := bytes_loop n h0 h1 m [] hm (by simpa using hm)
  refine Ev.congr (fun k => ?_) this
  rw [minstrelref07_bytes.f, wrap64_in _ (by omega) (by omega)]
/-- What put answers, where the writer has come to r. -/
def put2 (r : List Int × Int) : List Int × Int := if r.2 = 0 then (r.1, 0) else ([], r.2)
/-- The end of put at no list. -/
theorem put_tail (c : S26) (deep : Int) (h2 : ¬ c.f0 = 2) (ys : List Int) : Ev (fun k => minstrelref07_put.j3 k ys deep c.f0 c.f1 c.f2 c.f3) (put2 (ys, lookC ys.length)) := by
  have hl0 : ys.length ≤ 1048576 → Ev (fun k => minstrelref07_put.l0 k ys deep 0 c.f0 c.f1 c.f2 c.f3) (ys, 0) := fun hy => by
    refine Ev.step (f := fun k => minstrelref07_put.j6 k ys deep 0 false c.f0 c.f1 c.f2 c.f3) (fun k => by rw [minstrelref07_put.l0, if_neg h2]) ?_
    refine Ev.step (f := fun k => some (ys, 0)) (fun k => ?_) (Ev.now _)
    rw [minstrelref07_put.j6, if_neg (by decide)]
  refine Ev.step (f := fun k => minstrelref07_put.j4 k ys deep c.f0 c.f1 c.f2 c.f3) (fun k => by rw [minstrelref07_put.j3, if_neg h2]) ?_
  by_cases hy : 1048576 < ys.length
  · have e : put2 (ys, lookC ys.length) = ([], 2) := by unfold put2 lookC; rw [if_pos hy]; rfl
    rw [e]
    refine Ev.step (f := fun k => some ([], 2)) (fun k => ?_) (Ev.now _)
    rw [minstrelref07_put.j4, if_pos (by omega)]
  · have e : put2 (ys, lookC ys.length) = (ys, 0) := by unfold put2 lookC; rw [if_neg hy]; rfl
    rw [e]
    refine Ev.step (fun k => ?_) (hl0 (by omega))
    rw [minstrelref07_put.j4, if_neg (by omega)]
theorem put_loop (K : Nat) (c : S26) (deep : Nat) (h2 : c.f0 = 2) (hlen : c.f3.length ≤ 1048576) (hd : deep + 1 ≤ 64)
    (ih : ∀ x ∈ c.f3, ∀ (xs : List Int) (r : List Int × Int), xs.length ≤ 1048576 → wrCell K x (deep + 1) xs = some r → Ev (fun k => minstrelref07_put.f k xs x.f0 x.f1 x.f2 x.f3 ((deep + 1 : Nat) : Int)) (put2 r)) :
    ∀ (m n : Nat) (zs : List Int) (r : List Int × Int), n + m = c.f3.length → zs.length ≤ 1048576 → foldW (fun x ys => wrCell K x (deep + 1) ys) (c.f3.drop n) zs = some r → Ev (fun k => minstrelref07_put.l0 k zs (deep : Int) (n : Int) c.f0 c.f1 c.f2 c.f3) (put2 r)
  | 0, n, zs, r, hn, hz, h => by
    rw [List.drop_eq_nil_of_le (by omega)] at h
    simp only [foldW, Option.some.injEq] at h
    subst h
    refine Ev.step (f := fun k => minstrelref07_put.j6 k zs (deep : Int) (n : Int) false c.f0 c.f1 c.f2 c.f3) (fun k => ?_) ?_
    · rw [minstrelref07_put.l0, if_pos h2, decide_eq_false (by omega)]
    refine Ev.step (f := fun k => some (zs, 0)) (fun k => ?_) (Ev.now _)
    rw [minstrelref07_put.j6, if_neg (by decide)]
  | m + 1, n, zs, r, hn, hz, h => by
    have hna : n < c.f3.length := by omega
    have hrd : rd_T26 c.f3 (n : Int) = c.f3[n] := rd_at _ n hna
    rw [List.drop_eq_getElem_cons hna] at h
    simp only [foldW] at h
    obtain ⟨r1, hr1, h⟩ := Option.bind_eq_some_iff.mp h
    have hE := ih _ (List.getElem_mem hna) zs r1 hz hr1
    have e1 : wrap64 ((deep : Int) + 1) = ((deep + 1 : Nat) : Int) := wrap64_in _ (by omega) (by omega)
    have e2 : wrap64 ((n : Int) + 1) = ((n + 1 : Nat) : Int) := wrap64_in _ (by omega) (by omega)
    have A := Aside0.mk (And.intro e1 e2)
    clear e1 e2
    refine Ev.step (f := fun k => minstrelref07_put.j6 k zs (deep : Int) (n : Int) true c.f0 c.f1 c.f2 c.f3) (fun k => ?_) ?_
    · rw [minstrelref07_put.l0, if_pos h2, decide_eq_true (by omega)]
    refine Ev.step (f := fun k => (minstrelref07_put.f k zs c.f3[n].f0 c.f3[n].f1 c.f3[n].f2 c.f3[n].f3 ((deep + 1 : Nat) : Int)).bind fun bt => if bt.2 = 0 then minstrelref07_put.l0 k bt.1 (deep : Int) ((n + 1 : Nat) : Int) c.f0 c.f1 c.f2 c.f3 else some ([], bt.2)) (fun k => ?_) (Ev.bind hE ?_)
    · rw [minstrelref07_put.j6, if_pos rfl, if_pos (by omega), if_pos (by omega), hrd, A.out.1, A.out.2]
    · obtain ⟨zs1, e1⟩ := r1
      by_cases he : e1 = 0
      · subst he
        simp only [if_true] at h
        have hl1 : zs1.length ≤ 1048576 := wrCell_len _ _ _ _ _ hr1
        simp only [put2, if_true]
        exact put_loop K c deep h2 hlen hd ih m (n + 1) zs1 r (by omega) hl1 h
      · simp only [if_neg he, Option.some.injEq] at h
        subst h
        simp only [put2, if_neg he]
        exact Ev.now _
theorem put_ev (K : Nat) : ∀ (c : S26) (deep : Nat) (xs : List Int) (r : List Int × Int), (∀ j, wfc j c) → (∀ j, szc j c) → deep ≤ 64 → xs.length ≤ 1048576 → wrCell K c deep xs = some r → Ev (fun k => minstrelref07_put.f k xs c.f0 c.f1 c.f2 c.f3 (deep : Int)) (put2 r) := by
  induction K with
  | zero =>
    intro c deep xs r hw hz hd hx h
    simp [wrCell] at h
  | succ K put_ev =>
    intro c deep xs r hw hz hd hx h
    have hw1 := hw 1
    simp only [wfc] at hw1
    obtain ⟨_, hf1, _, hf3, _⟩ := hw1
    have hf1' : 0 ≤ c.f1 ∧ c.f1 < 18446744073709551616 := by
      simp [Lit.wf, IntKind.min, IntKind.max, IntKind.signed, IntKind.bits] at hf1
      omega
    clear hf1
    have hf2 : c.f2.size ≤ 140737488351232 := (hz 1).1
    have start : ∀ v, 0 ≤ c.f0 → c.f0 ≤ 2 → Ev (fun k => minstrelref07_put.j0 k xs (deep : Int) false c.f0 c.f1 c.f2 c.f3) v → Ev (fun k => minstrelref07_put.f k xs c.f0 c.f1 c.f2 c.f3 (deep : Int)) v := fun v h0 h1 hv =>
      Ev.step (fun k => by rw [minstrelref07_put.f, if_neg (by omega), decide_eq_false (by omega)]) hv
    have start2 : ∀ v, 0 ≤ c.f0 → c.f0 < 2 → Ev (fun k => minstrelref07_put.j1 k xs (deep : Int) false c.f0 c.f1 c.f2 c.f3) v → Ev (fun k => minstrelref07_put.f k xs c.f0 c.f1 c.f2 c.f3 (deep : Int)) v := fun v h0 h1 hv =>
      start v h0 (by omega) (Ev.step (fun k => by rw [minstrelref07_put.j0, if_neg (by decide), if_neg (by omega)]) hv)
    have bad : c.f0 < 0 ∨ c.f0 > 2 → Ev (fun k => minstrelref07_put.f k xs c.f0 c.f1 c.f2 c.f3 (deep : Int)) ([], 1) := fun hb => by
      have ht : Ev (fun k => minstrelref07_put.j0 k xs (deep : Int) true c.f0 c.f1 c.f2 c.f3) ([], 1) := Ev.step (f := fun k => some ([], 1)) (fun k => by rw [minstrelref07_put.j0, if_pos rfl]) (Ev.now _)
      by_cases h0 : c.f0 < 0
      · exact Ev.step (fun k => by rw [minstrelref07_put.f, if_pos h0]) ht
      · exact Ev.step (fun k => by rw [minstrelref07_put.f, if_neg h0, decide_eq_true (by omega)]) ht
    simp only [wrCell] at h
    by_cases h0 : c.f0 = 0
    · rw [if_pos h0, Option.some.injEq] at h
      subst h
      have hb8 := beB_length c.f1 8
      refine start2 _ (by omega) (by omega) ?_
      have e0 : xs ++ [c.f0 % 256] ++ beB c.f1 8 = xs ++ (0 :: beB c.f1 8) := by rw [h0]; simp
      have ht := put_tail c deep (by omega) (xs ++ (0 :: beB c.f1 8))
      rw [show (xs ++ (0 :: beB c.f1 8)).length = xs.length + 9 by rw [List.length_append, List.length_cons, hb8]] at ht
      refine Ev.step (f := fun k => (minstrelref07_bytes.f k c.f1 8).bind fun t174 => (if (xs ++ [c.f0 % 256]).length + t174.length < 140737488355328 then (minstrelref07_put.j2 k (xs ++ [c.f0 % 256] ++ t174) (deep : Int) c.f0 c.f1 c.f2 c.f3) else none)) (fun k => ?_) (Ev.bind (bytes_ev c.f1 hf1'.1 hf1'.2 8 (by omega)) ?_)
      · rw [minstrelref07_put.j1, if_neg (by decide), if_pos (by omega)]
        simp only [Option.bind_some, if_pos h0]
      · simp only [if_pos (show (xs ++ [c.f0 % 256]).length + (beB c.f1 8).length < 140737488355328 by rw [List.length_append, List.length_singleton]; omega), e0]
        exact Ev.step (fun k => by rw [minstrelref07_put.j2, if_neg (by omega)]) ht
    · rw [if_neg h0] at h
      by_cases h1 : c.f0 = 1
      · rw [if_pos h1] at h
        have hb4 := beB_length c.f2.size 4
        refine start2 _ (by omega) (by omega) ?_
        have e0 : xs ++ [c.f0 % 256] ++ beB c.f2.size 4 = xs ++ (1 :: beB c.f2.size 4) := by rw [h1]; simp
        have el : (xs ++ (1 :: beB c.f2.size 4)).length = xs.length + 5 := by rw [List.length_append, List.length_cons, hb4]
        have EW : Aside0 (IntKind.u64.wrap (c.f2.size : Int) = (c.f2.size : Int)) := ⟨IntWalk.u64_in _ (by omega)⟩
        have hstep : ∀ v, Ev (fun k => (if (wrap64 (((xs ++ (1 :: beB c.f2.size 4)).length : Int) + (c.f2.size : Int))) > 1048576 then (some (([] : List Int), 2)) else (if (xs ++ (1 :: beB c.f2.size 4)).length + c.f2.size < 140737488355328 then (minstrelref07_put.j3 k (xs ++ (1 :: beB c.f2.size 4) ++ bytesOf c.f2) (deep : Int) c.f0 c.f1 c.f2 c.f3) else (none)))) v → Ev (fun k => minstrelref07_put.j1 k xs (deep : Int) false c.f0 c.f1 c.f2 c.f3) v := fun v hv => by
          refine Ev.step (f := fun k => minstrelref07_put.j2 k (xs ++ [c.f0 % 256]) (deep : Int) c.f0 c.f1 c.f2 c.f3) (fun k => ?_) ?_
          · rw [minstrelref07_put.j1, if_neg (by decide), if_pos (by omega)]
            simp only [Option.bind_some, if_neg h0]
          · have hlt : (xs ++ [c.f0 % 256]).length + (beB c.f2.size 4).length < 140737488355328 := by rw [List.length_append, List.length_singleton]; omega
            refine Ev.step (f := fun k => (minstrelref07_bytes.f k (c.f2.size : Int) 4).bind fun t180 => (if (xs ++ [c.f0 % 256]).length + t180.length < 140737488355328 then ((some (xs ++ [c.f0 % 256] ++ t180 : List Int)).bind fun y183 => (if (wrap64 ((y183.length : Int) + (c.f2.size : Int))) > 1048576 then (some (([] : List Int), 2)) else (if y183.length + c.f2.size < 140737488355328 then (minstrelref07_put.j3 k (y183 ++ bytesOf c.f2) (deep : Int) c.f0 c.f1 c.f2 c.f3) else (none)))) else (none))) (fun k => ?_) (Ev.bind (bytes_ev (c.f2.size : Int) (by omega) (by omega) 4 (by omega)) ?_)
            · rw [minstrelref07_put.j2, if_pos h1, EW.out]
            · refine Ev.congr (fun k => ?_) hv
              rw [if_pos hlt, e0, Option.bind_some]
        have A : Aside0 (wrap64 (((xs ++ (1 :: beB c.f2.size 4)).length : Int) + (c.f2.size : Int)) = ((xs.length + 5 + c.f2.size : Nat) : Int)) := ⟨by
          rw [el, wrap64_in _ (by omega) (by omega)]
          omega⟩
        refine hstep _ ?_
        simp only [A.out]
        by_cases hbig : 1048576 < xs.length + 5 + c.f2.size
        · have hr : put2 r = ([], 2) := by
            by_cases hs : 1048576 < c.f2.size
            · rw [if_pos hs] at h; obtain rfl := Option.some.inj h; rfl
            · rw [if_neg hs] at h
              by_cases h5 : lookC (xs.length + 5) = 0
              · rw [if_pos h5, Option.some.injEq] at h
                subst h
                unfold put2 lookC
                rw [if_pos hbig]
                rfl
              · rw [if_neg h5] at h; obtain rfl := Option.some.inj h; rfl
          rw [hr]
          refine Ev.congr (fun k => ?_) (Ev.now _)
          rw [if_pos (by omega)]
        · rw [if_neg (by omega), lookC_of (by omega), if_pos rfl, Option.some.injEq] at h
          subst h
          have ht := put_tail c deep (by omega) (xs ++ (1 :: beB c.f2.size 4) ++ bytesOf c.f2)
          rw [show (xs ++ (1 :: beB c.f2.size 4) ++ bytesOf c.f2).length = xs.length + 5 + c.f2.size by rw [List.length_append, el, bytesOf_length]] at ht
          refine Ev.congr (fun k => ?_) ht
          rw [if_neg (by omega), if_pos (by omega)]
      · rw [if_neg h1] at h
        by_cases h2 : c.f0 = 2
        · rw [if_pos h2] at h
          refine start _ (by omega) (by omega) ?_
          by_cases hdd : 64 < deep + 1
          · rw [if_pos hdd] at h
            obtain rfl := Option.some.inj h
            refine Ev.step (f := fun k => minstrelref07_put.j1 k xs (deep : Int) true c.f0 c.f1 c.f2 c.f3) (fun k => ?_) ?_
            · rw [minstrelref07_put.j0, if_neg (by decide), if_pos h2, decide_eq_true (by omega)]
            · exact Ev.step (f := fun k => some ([], 2)) (fun k => by rw [minstrelref07_put.j1, if_pos rfl]) (Ev.now _)
          · rw [if_neg hdd] at h
            have hlm : c.f3.length ≤ 9223372036854775807 := by simpa only [maxLen] using hf3
            have hb4 := beB_length c.f3.length 4
            have el : (xs ++ (2 :: beB c.f3.length 4)).length = xs.length + 5 := by rw [List.length_append, List.length_cons, hb4]
            have e0 : xs ++ [c.f0 % 256] ++ beB c.f3.length 4 = xs ++ (2 :: beB c.f3.length 4) := by rw [h2]; simp
            have A : Aside0 (IntKind.u64.wrap (c.f3.length : Int) = (c.f3.length : Int)) := ⟨IntWalk.u64_in _ (by omega)⟩
            refine Ev.step (f := fun k => minstrelref07_put.j1 k xs (deep : Int) false c.f0 c.f1 c.f2 c.f3) (fun k => ?_) ?_
            · rw [minstrelref07_put.j0, if_neg (by decide), if_pos h2, decide_eq_false (by omega)]
            refine Ev.step (f := fun k => minstrelref07_put.j2 k (xs ++ [c.f0 % 256]) (deep : Int) c.f0 c.f1 c.f2 c.f3) (fun k => ?_) ?_
            · rw [minstrelref07_put.j1, if_neg (by decide), if_pos (by omega)]
              simp only [Option.bind_some, if_neg h0]
            refine Ev.step (f := fun k => minstrelref07_put.j3 k (xs ++ [c.f0 % 256]) (deep : Int) c.f0 c.f1 c.f2 c.f3) (fun k => by rw [minstrelref07_put.j2, if_neg h1]) ?_
            refine Ev.step (f := fun k => (minstrelref07_bytes.f k (c.f3.length : Int) 4).bind fun t189 => (if (xs ++ [c.f0 % 256]).length + t189.length < 140737488355328 then (if (c.f3.length : Int) > 1048576 then (some (([] : List Int), 2)) else (minstrelref07_put.j4 k (xs ++ [c.f0 % 256] ++ t189) (deep : Int) c.f0 c.f1 c.f2 c.f3)) else (none))) (fun k => by rw [minstrelref07_put.j3, if_pos h2, A.out]) (Ev.bind (bytes_ev (c.f3.length : Int) (by omega) (by omega) 4 (by omega)) ?_)
            have hlt : (xs ++ [c.f0 % 256]).length + (beB c.f3.length 4).length < 140737488355328 := by rw [List.length_append, List.length_singleton]; omega
            simp only [if_pos hlt, e0]
            by_cases hs : 1048576 < c.f3.length
            · rw [if_pos hs] at h
              obtain rfl := Option.some.inj h
              refine Ev.congr (fun k => ?_) (Ev.now _)
              rw [if_pos (by omega)]
              rfl
            · rw [if_neg hs] at h
              refine Ev.congr (f := fun k => minstrelref07_put.j4 k (xs ++ (2 :: beB c.f3.length 4)) (deep : Int) c.f0 c.f1 c.f2 c.f3) (fun k => by rw [if_neg (by omega)]) ?_
              by_cases h5 : 1048576 < xs.length + 5
              · have hlk : ¬ lookC (xs.length + 5) = 0 := by unfold lookC; rw [if_pos h5]; decide
                rw [if_neg hlk] at h
                obtain rfl := Option.some.inj h
                exact Ev.step (f := fun k => some ([], 2)) (fun k => by rw [minstrelref07_put.j4, if_pos (by omega)]) (Ev.now _)
              · rw [lookC_of (by omega), if_pos rfl] at h
                refine Ev.step (f := fun k => minstrelref07_put.l0 k (xs ++ (2 :: beB c.f3.length 4)) (deep : Int) ((0 : Nat) : Int) c.f0 c.f1 c.f2 c.f3) (fun k => by rw [minstrelref07_put.j4, if_neg (by omega)]; rfl) ?_
                exact put_loop K c deep h2 (by omega) (by omega) (fun x hxm ys r hy hr => put_ev x (deep + 1) ys r (fun j => (hw (j + 1)).2.2.2.2 x hxm) (fun j => (hz (j + 1)).2 x hxm) (by omega) hy hr) c.f3.length 0 _ r (by omega) (by omega) (by rw [List.drop_zero]; exact h)
        · rw [if_neg h2] at h
          obtain rfl := Option.some.inj h
          exact bad (by omega)
end Go.Proofs.Ytjcaieecafggiaa.Pure
