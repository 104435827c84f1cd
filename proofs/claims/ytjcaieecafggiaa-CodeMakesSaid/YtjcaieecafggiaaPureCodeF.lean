/- The plain part of the laws on cells: which are small, and that a cell of its own is the same. -/
import Derived.Test.YtjcaieecafggiaaPureCodeE
import Derived.Test.YtjcaieecafggiaaPureCodeD
import Derived.Test.YtjcaieecafggiaaPr4
namespace Go.Proofs.Ytjcaieecafggiaa.Pure
open Go.RowKit Go.Proofs.Ytjcaieecafggiaa.Pr Go.Proofs.YtjcaieecafggiaaW.PrintWords Go.Proofs.YtjcaieecafggiaaW.PrintLast Go.Proofs.YtjcaieecafggiaaW.PrintMore
set_option linter.unusedVariables false
set_option linter.unusedSimpArgs false
/-- No list in it is longer than 3000. -/
def lenB : Nat → S26 → Prop
  | 0, _ => True
  | k + 1, c => c.f3.length ≤ 3000 ∧ ∀ x ∈ c.f3, lenB k x
theorem eta26 (c : S26) : (⟨c.f0, c.f1, c.f2, c.f3⟩ : S26) = c := by cases c; rfl
theorem small_loop (K : Nat) (c : S26) (most deep : Int) (hl : c.f3.length ≤ 9223372036854775807) (hm0 : -deep ≤ most) (hm1 : most ≤ 3000) (hd0 : 0 ≤ deep) (hd1 : deep ≤ 100)
    (ih : ∀ x ∈ c.f3, ∀ most deep : Int, -deep ≤ most → most ≤ 3000 → 0 ≤ deep → deep ≤ 101 → ∃ n ok, Ev (fun k => minstrelref07_Small.f k x.f0 x.f1 x.f2 x.f3 most deep) (n, ok) ∧ 1 ≤ n ∧ n ≤ 3000 + (102 - deep) ∧ (1 ≤ most → n ≤ most + (102 - deep)) ∧ (most < 1 → n ≤ 1 + (102 - deep)) ∧ (ok = true → lenB K x)) :
    ∀ (m n : Nat) (x8 : Int), n + m = c.f3.length → (n : Int) + 1 ≤ x8 → (x8 ≤ most ∨ x8 = 1) → (n = 0 ∨ x8 ≤ most) → (∀ x ∈ c.f3.take n, lenB K x) →
      ∃ r ok, Ev (fun k => minstrelref07_Small.l0 k most deep x8 (n : Int) c.f0 c.f1 c.f2 c.f3) (r, ok) ∧ 1 ≤ r ∧ r ≤ 3000 + (102 - deep) ∧ (1 ≤ most → r ≤ most + (102 - deep)) ∧ (most < 1 → r ≤ 1 + (102 - deep)) ∧ (ok = true → lenB (K + 1) c)
  | 0, n, x8, hn, h8, hx, hx0, hall => by
    refine ⟨x8, true, ?_, by omega, by omega, by omega, by omega, fun _ => ⟨by omega, ?_⟩⟩
    · refine Ev.step (f := fun k => some (x8, true)) (fun k => ?_) (Ev.now _)
      rw [minstrelref07_Small.l0, if_neg (by omega)]
    · rwa [List.take_of_length_le (by omega)] at hall
  | m + 1, n, x8, hn, h8, hx, hx0, hall => by
    have hna : n < c.f3.length := by omega
    have hrd : rd_T26 c.f3 (n : Int) = c.f3[n] := rd_at _ n hna
    obtain ⟨p, ok, hp, hp1, hp2, hp3, hp4, hpk⟩ := ih c.f3[n] (List.getElem_mem _) (most - x8) (deep + 1) (by omega) (by omega) (by omega) (by omega)
    have e1 : wrap64 (most - x8) = most - x8 := wrap64_in _ (by omega) (by omega)
    have e2 : wrap64 (deep + 1) = deep + 1 := wrap64_in _ (by omega) (by omega)
    have e3 : wrap64 (x8 + p) = x8 + p := wrap64_in _ (by omega) (by omega)
    have e4 : wrap64 ((n : Int) + 1) = ((n + 1 : Nat) : Int) := wrap64_in _ (by omega) (by omega)
    have E := And.intro e1 (And.intro e2 (And.intro e3 e4))
    replace E := Aside0.mk E
    clear e1 e2 e3 e4
    have hstep : ∀ k, minstrelref07_Small.l0 (k + 1) most deep x8 (n : Int) c.f0 c.f1 c.f2 c.f3 = (minstrelref07_Small.f k (c.f3[n].f0) (c.f3[n].f1) (c.f3[n].f2) (c.f3[n].f3) (most - x8) (deep + 1)).bind fun bt => (if bt.2 = true then (if (wrap64 (x8 + bt.1)) > most then (some (wrap64 (x8 + bt.1), false)) else (minstrelref07_Small.l0 k most deep (wrap64 (x8 + bt.1)) ((n + 1 : Nat) : Int) c.f0 c.f1 c.f2 c.f3)) else (some (wrap64 (x8 + bt.1), false))) := fun k => by
      rw [minstrelref07_Small.l0, if_pos (by omega), if_pos (by omega), hrd, E.out.1, E.out.2.1, E.out.2.2.2]
    cases ok with
    | false =>
      refine ⟨x8 + p, false, Ev.step hstep (Ev.bind hp ?_), by omega, by omega, by omega, by omega, fun h => by cases h⟩
      simp only [Bool.false_eq_true, if_false, E.out.2.2.1]
      exact Ev.now _
    | true =>
      by_cases hgt : x8 + p > most
      · refine ⟨x8 + p, false, Ev.step hstep (Ev.bind hp ?_), by omega, by omega, by omega, by omega, fun h => by cases h⟩
        simp only [if_true, E.out.2.2.1, if_pos hgt]
        exact Ev.now _
      · obtain ⟨r, ok, hr, hrest⟩ := small_loop K c most deep hl hm0 hm1 hd0 hd1 ih m (n + 1) (x8 + p) (by omega) (by omega) (by omega) (by omega) (fun x hx => by
          rw [List.take_succ_eq_append_getElem hna] at hx
          rcases List.mem_append.1 hx with hx | hx
          · exact hall x hx
          · rw [List.mem_singleton.1 hx]; exact hpk rfl)
        refine ⟨r, ok, Ev.step hstep (Ev.bind hp ?_), hrest⟩
        simp only [if_true, E.out.2.2.1, if_neg hgt]
        exact hr
theorem small_ev : ∀ (K : Nat) (c : S26), dep K c = true → (∀ j, wfc j c) → ∀ most deep : Int, -deep ≤ most → most ≤ 3000 → 0 ≤ deep → deep ≤ 101 →
    ∃ n ok, Ev (fun k => minstrelref07_Small.f k c.f0 c.f1 c.f2 c.f3 most deep) (n, ok) ∧ 1 ≤ n ∧ n ≤ 3000 + (102 - deep) ∧ (1 ≤ most → n ≤ most + (102 - deep)) ∧ (most < 1 → n ≤ 1 + (102 - deep)) ∧ (ok = true → lenB K c)
  | 0, c, h, hw, most, deep, h0, h1, h2, h3 => by simp [dep] at h
  | K + 1, c, h, hw, most, deep, h0, h1, h2, h3 => by
    rw [dep] at h
    simp only [List.all_eq_true] at h
    by_cases hd : deep > 100
    · refine ⟨1, false, Ev.step (f := fun k => some (1, false)) (fun k => ?_) (Ev.now _), by omega, by omega, by omega, by omega, fun h => by cases h⟩
      rw [minstrelref07_Small.f, if_pos hd]
    · have hl : c.f3.length ≤ 9223372036854775807 := by
        have := (hw 1).2.2.2.1
        simp only [maxLen] at this
        omega
      obtain ⟨r, ok, hr, hrest⟩ := small_loop K c most deep hl h0 h1 h2 (by omega) (fun x hx most deep => small_ev K x (h x hx) (fun j => (hw (j + 1)).2.2.2.2 x hx) most deep) c.f3.length 0 1 (by omega) (by omega) (.inr rfl) (.inl rfl) (fun x hx => by simp at hx)
      refine ⟨r, ok, Ev.step (fun k => ?_) hr, hrest⟩
      rw [minstrelref07_Small.f, if_neg hd]
      rfl
theorem own_loop (c : S26) (hl : c.f3.length ≤ 3000) (ih : ∀ x ∈ c.f3, Ev (fun k => minstrelref07_Own.f k x.f0 x.f1 x.f2 x.f3) (x.f0, x.f1, x.f2, x.f3)) :
    ∀ (m n : Nat), n + m = c.f3.length → Ev (fun k => minstrelref07_Own.l0 k (c.f3.take n) (n : Int) c.f0 c.f1 c.f2 c.f3) (c.f0, c.f1, c.f2, c.f3)
  | 0, n, hn => by
    refine Ev.step (f := fun k => some (c.f0, c.f1, c.f2, c.f3)) (fun k => ?_) (Ev.now _)
    rw [minstrelref07_Own.l0, if_neg (by omega), List.take_of_length_le (by omega)]
  | m + 1, n, hn => by
    have hna : n < c.f3.length := by omega
    have hrd : rd_T26 c.f3 (n : Int) = c.f3[n] := rd_at _ n hna
    have e4 : wrap64 ((n : Int) + 1) = ((n + 1 : Nat) : Int) := wrap64_in _ (by omega) (by omega)
    refine Ev.step (f := fun k => (minstrelref07_Own.f k (c.f3[n].f0) (c.f3[n].f1) (c.f3[n].f2) (c.f3[n].f3)).bind fun bt => (if (c.f3.take n).length < 2513169434916 then (minstrelref07_Own.l0 k (c.f3.take n ++ [(⟨bt.1, bt.2.1, bt.2.2.1, bt.2.2.2⟩ : S26)]) ((n + 1 : Nat) : Int) c.f0 c.f1 c.f2 c.f3) else (none))) (fun k => ?_) (Ev.bind (ih _ (List.getElem_mem _)) ?_)
    · rw [minstrelref07_Own.l0, if_pos (by omega), if_pos (by omega), hrd, e4]
    · simp only [if_pos (show (c.f3.take n).length < 2513169434916 by rw [List.length_take]; omega)]
      have := own_loop c hl ih m (n + 1) (by omega)
      rw [List.take_succ_eq_append_getElem hna] at this
      rw [eta26]
      exact this
theorem own_ev : ∀ (K : Nat) (c : S26), dep K c = true → lenB K c → Ev (fun k => minstrelref07_Own.f k c.f0 c.f1 c.f2 c.f3) (c.f0, c.f1, c.f2, c.f3)
  | 0, c, h, hl => by simp [dep] at h
  | K + 1, c, h, hl => by
    rw [dep] at h
    simp only [List.all_eq_true] at h
    refine Ev.step (fun k => ?_) (own_loop c hl.1 (fun x hx => own_ev K x (h x hx) (hl.2 x hx)) c.f3.length 0 (by omega))
    rw [minstrelref07_Own.f]
    rfl
theorem foldW_some {g : S26 → List Int → Option (List Int × Int)} : ∀ (L : List S26) (xs : List Int), (∀ x ∈ L, ∀ xs, ∃ r, g x xs = some r) → ∃ r, foldW g L xs = some r
  | [], xs, h => ⟨_, rfl⟩
  | x :: L, xs, h => by
    obtain ⟨r, hr⟩ := h x (List.mem_cons_self ..) xs
    simp only [foldW, hr, Option.bind_some]
    split
    · exact foldW_some L _ (fun y hy => h y (List.mem_cons_of_mem _ hy))
    · exact ⟨_, rfl⟩
theorem wrCell_some : ∀ (K : Nat) (c : S26) (deep : Nat) (xs : List Int), dep K c = true → ∃ r, wrCell K c deep xs = some r
  | 0, c, deep, xs, h => by simp [dep] at h
  | K + 1, c, deep, xs, h => by
    rw [dep] at h
    simp only [List.all_eq_true] at h
    simp only [wrCell]
    repeat' (first | split | exact ⟨_, rfl⟩)
    exact foldW_some _ _ (fun x hx ys => wrCell_some K x (deep + 1) ys (h x hx))
theorem enc_ev {K : Nat} {c : S26} {r : List Int × Int} (h : wrCell K c 0 [] = some r) : Ev (fun k => code_Encode.f k c.f0 c.f1 c.f2 c.f3) (if r.2 = 0 then (r.1, 0) else ([], r.2)) := ⟨K, fun k hk => by
  show code_Encode.f k c.f0 c.f1 c.f2 c.f3 = _
  unfold code_Encode.f
  have h9 := at_rounds (g := fun k => wrCell k c 0 []) (fun k r h => wrCell_mono k c 0 [] r h) hk h
  obtain ⟨c0, c1, c2, c3⟩ := c
  simp only at h9 ⊢
  rw [h9]
  rfl⟩
theorem dec_ev {K : Nat} {bs : List Int} {r : S26 × List Int × Int} (hl : bs.length ≤ 1048576) (h : rdCell K 0 bs = some r) : Ev (fun k => code_Decode.f k bs) (decR r) := ⟨K, fun k hk => by
  show code_Decode.f k bs = _
  unfold code_Decode.f
  rw [if_neg (by omega), at_rounds (g := fun k => rdCell k 0 bs) (fun k r h => rdCell_mono k 0 bs r h) hk h]
  rfl⟩
theorem dec_long {bs : List Int} (hl : 1048576 < bs.length) : Ev (fun k => code_Decode.f k bs) (0, 0, ⟨#[]⟩, [], 2) := ⟨0, fun k hk => by
  show code_Decode.f k bs = _
  unfold code_Decode.f
  rw [if_pos hl]⟩
/-- All that the laws on small cells begin with. -/
theorem small_top (c : S26) (hw : ∀ j, wfc j c) : ∃ ok, Ev (fun k => minstrellaw07_small.f k c.f0 c.f1 c.f2 c.f3) ok ∧ (ok = true → ∃ K, dep K c = true ∧ lenB K c) := by
  obtain ⟨K, hK⟩ := exists_dep c
  obtain ⟨n, ok, h1, _, _, _, _, h2⟩ := small_ev K c hK hw 3000 0 (by omega) (by omega) (by omega) (by omega)
  refine ⟨ok, Ev.congr (f := fun k => (minstrelref07_Small.f k c.f0 c.f1 c.f2 c.f3 3000 0).bind fun bt205 => (some bt205.2)) (fun k => ?_) (Ev.bind h1 (Ev.now _)), fun h => ⟨K, hK, h2 h⟩⟩
  unfold minstrellaw07_small.f
  rfl
end Go.Proofs.Ytjcaieecafggiaa.Pure
