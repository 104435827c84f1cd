/- The writer of package code: cell at a list; cell. -/
import Derived.Test.YtjcaieecafggiaaWrText
namespace Go.Proofs.Ytjcaieecafggiaa.Pr
open Go.RowKit Go.Proofs.YtjcaieecafggiaaW.PrintWords Go.Proofs.YtjcaieecafggiaaW.PrintLast Go.Proofs.YtjcaieecafggiaaW.PrintMore
set_option linter.unusedVariables false
set_option linter.unusedSimpArgs false
theorem foldW_len {α : Type} {f : α → List Int → Option (List Int × Int)} (hf : ∀ x xs zs, f x xs = some (zs, 0) → zs.length ≤ 1048576) : ∀ (l : List α) (xs zs : List Int), xs.length ≤ 1048576 → foldW f l xs = some (zs, 0) → zs.length ≤ 1048576
  | [], xs, zs, hx, h => by simp only [foldW, Option.some.injEq, Prod.mk.injEq] at h; rw [← h.1]; exact hx
  | x :: l, xs, zs, hx, h => by
    simp only [foldW] at h
    obtain ⟨⟨y, e⟩, h1, h2⟩ := Option.bind_eq_some_iff.mp h
    by_cases he : e = 0
    · subst he
      rw [if_pos rfl] at h2
      exact foldW_len hf l y zs (hf _ _ _ h1) h2
    · rw [if_neg he] at h2
      simp only [Option.some.injEq, Prod.mk.injEq] at h2
      exact absurd h2.2 he
theorem wrCell_len : ∀ (k : Nat) (c : S26) (deep : Nat) (xs zs : List Int), wrCell k c deep xs = some (zs, 0) → zs.length ≤ 1048576
  | 0, c, deep, xs, zs, h => by simp [wrCell] at h
  | k + 1, c, deep, xs, zs, h => by
    simp only [wrCell] at h
    split at h
    · simp only [Option.some.injEq, Prod.mk.injEq] at h
      rw [← h.1, List.length_append, List.length_cons, beB_length]
      exact lookC_zero h.2
    · split at h
      · split at h
        · simp at h
        · split at h
          · simp only [Option.some.injEq, Prod.mk.injEq] at h
            rw [← h.1]
            simp only [List.length_append, List.length_cons, beB_length, bytesOf_length]
            have := lookC_zero h.2
            omega
          · simp at h
      · split at h
        · split at h
          · simp at h
          · split at h
            · simp at h
            · split at h
              · rename_i hq
                refine foldW_len (fun x y z => wrCell_len k x (deep + 1) y z) _ _ _ ?_ h
                simp only [List.length_append, List.length_cons, beB_length]
                exact lookC_zero hq
              · simp at h
        · simp at h
theorem drop_rd (L : List S26) (I : Int) (h0 : 0 ≤ I) (h1 : I < (L.length : Int)) : L.drop I.toNat = rd_T26 L I :: L.drop (I + 1).toNat := by
  have hi : I.toNat < L.length := by omega
  rw [List.drop_eq_getElem_cons hi, show (I + 1).toNat = I.toNat + 1 by omega]
  congr 1
  unfold rd_T26
  rw [List.getD_eq_getElem?_getD, List.getElem?_eq_getElem hi]
  rfl
set_option maxHeartbeats 1600000 in
set_option maxRecDepth 100000 in
theorem cell_deep (w0 : World) (p : Nat) (N : Int) (S : ByteArray) (A3 : Option Addr) (n3 c3 : Nat) (deep : Nat) (w : World) (v : Value) (xs : List Int) (h : Wr w0.heap.size p w v xs) (hd : 64 < deep + 1) (hd2 : deep ≤ 64) :
    Calls Try.prog 26 #[.pointer (some ⟨p, 0, none⟩), .agg #[.int .i64 2, .int .u64 N, .string S, .slice A3 n3 c3], .int .i64 deep] w fun e w' =>
      e = endOf 2 ∧ WrEnd w0.heap.size p w v w' xs := by
  have hbel : ∀ o, Below w.heap.size w (w.alloc o) := fun o => (Below.refl _ _).alloc (Nat.le_refl _) _
  have HE : Aside0 (∀ o, WrEnd w0.heap.size p w v (w.alloc o) xs) := ⟨fun o => WrEnd.from (Nat.le_trans h.base (Nat.le_of_lt h.lt)) (hbel o) (WrEnd.refl (h.below (hbel o)))⟩
  have b0 : decide (64 < (deep : Int) + 1) = true := decide_eq_true (by omega)
  clear h hbel hd
  go_enter Try.func26, Try.ntmps26
  go_wp2_with (go_at_call 34; refine (give_calls _ _).mono ?_; rintro e w' ⟨rfl, rfl⟩)
  unfold bodyPost
  exact ⟨rfl, by rw [endOf_not (by decide)]; rfl, HE.out _⟩
set_option maxHeartbeats 1600000 in
set_option maxRecDepth 100000 in
theorem cell_wide (w0 : World) (p : Nat) (N : Int) (S : ByteArray) (A3 : Option Addr) (n3 c3 : Nat) (deep : Nat) (w : World) (v : Value) (xs : List Int) (h : Wr w0.heap.size p w v xs) (hd : ¬ 64 < deep + 1) (hn : 1048576 < n3) :
    Calls Try.prog 26 #[.pointer (some ⟨p, 0, none⟩), .agg #[.int .i64 2, .int .u64 N, .string S, .slice A3 n3 c3], .int .i64 deep] w fun e w' =>
      e = endOf 2 ∧ WrEnd w0.heap.size p w v w' xs := by
  have hbel : ∀ o, Below w.heap.size w (w.alloc o) := fun o => (Below.refl _ _).alloc (Nat.le_refl _) _
  have HE : Aside0 (∀ o, WrEnd w0.heap.size p w v (w.alloc o) xs) := ⟨fun o => WrEnd.from (Nat.le_trans h.base (Nat.le_of_lt h.lt)) (hbel o) (WrEnd.refl (h.below (hbel o)))⟩
  have b0 : decide (64 < (deep : Int) + 1) = false := decide_eq_false (by omega)
  have b1 : decide (1048576 < (n3 : Int)) = true := decide_eq_true (by omega)
  have b2 : decide (1048576 < n3) = true := decide_eq_true (by omega)
  have hd3 : deep ≤ 64 := by omega
  clear h hbel hd hn
  go_enter Try.func26, Try.ntmps26
  go_wp2_with (go_at_call 34; refine (give_calls _ _).mono ?_; rintro e w' ⟨rfl, rfl⟩)
  unfold bodyPost
  exact ⟨rfl, by rw [endOf_not (by decide)]; rfl, HE.out _⟩
set_option maxHeartbeats 1600000 in
set_option maxRecDepth 100000 in
theorem cell_list (w0 : World) (p : Nat) (k : Nat) (ih : ∀ (c : S26) (A3 : Option Addr) (c3 deep : Nat) (w : World) (v : Value) (xs zs : List Int) (e0 D : Int), Kd.C k26 w0 A3 c.f3.length c.f3 → c.f3.length ≤ c3 → Below w0.heap.size w0 w → Wr w0.heap.size p w v xs →
      xs.length ≤ 1048576 → deep ≤ 64 → D = (deep : Int) → wrCell k c deep xs = some (zs, e0) →
      Calls Try.prog 26 #[.pointer (some ⟨p, 0, none⟩), .agg #[.int .i64 c.f0, .int .u64 c.f1, .string c.f2, .slice A3 c.f3.length c3], .int .i64 D] w fun e w' => e = endOf e0 ∧ WrEnd w0.heap.size p w v w' zs)
    (N : Int) (S : ByteArray) (L : List S26) (A3 : Option Addr) (c3 : Nat) (deep : Nat) (w : World) (v : Value) (xs zs : List Int) (e0 : Int) (hr : Kd.C k26 w0 A3 L.length L) (hc3 : L.length ≤ c3) (hbw : Below w0.heap.size w0 w) (h : Wr w0.heap.size p w v xs) (hl : xs.length ≤ 1048576)
    (hd : ¬ 64 < deep + 1) (hn : ¬ 1048576 < L.length)
    (hz : (if lookC (xs.length + 5) = 0 then foldW (fun x ys => wrCell k x (deep + 1) ys) L (xs ++ (2 :: beB L.length 4)) else some (xs ++ (2 :: beB L.length 4), 2)) = some (zs, e0)) :
    Calls Try.prog 26 #[.pointer (some ⟨p, 0, none⟩), .agg #[.int .i64 2, .int .u64 N, .string S, .slice A3 L.length c3], .int .i64 deep] w fun e w' =>
      e = endOf e0 ∧ WrEnd w0.heap.size p w v w' zs := by
  have hbel : ∀ o, Below w.heap.size w (w.alloc o) := fun o => (Below.refl _ _).alloc (Nat.le_refl _) _
  have H := Aside0.mk h
  have HB := Aside0.mk hbel
  have HR := Aside0.mk hr
  have HZ := Aside0.mk hz
  have HBW := Aside0.mk hbw
  have IH := Aside0.mk ih
  have b0 : decide (64 < (deep : Int) + 1) = false := decide_eq_false (by omega)
  have b1 : decide (1048576 < (L.length : Int)) = false := decide_eq_false (by omega)
  have b2 : decide (1048576 < L.length) = false := decide_eq_false (by omega)
  have HW : Aside0 (IntKind.u64.wrap (L.length : Int) = (L.length : Int)) := ⟨IntWalk.u64_in _ (by omega)⟩
  have hd3 : deep ≤ 64 := by omega
  have HN := Aside0.mk hn
  have HD64 : Aside0 (deep + 1 ≤ 64) := ⟨by omega⟩
  clear h hbel hd hn hr hz hbw ih
  go_enter Try.func26, Try.ntmps26
  go_wp2_with fail
  rw [HW.out]
  refine (put_calls (H.out.below (HB.out _)) hl 2 _ 4 (by omega)).mono ?_
  rintro e w2 ⟨rfl, hE⟩
  rw [lookE_eq]
  rcases lookC_or (xs.length + (1 + 4)) with hq | hq
  · have HQ := Aside0.mk hq
    rw [hq, endOf_zero]
    have hx5 := lookC_zero hq
    clear hq
    obtain ⟨v1, hw1, ho1, hb1, hk1⟩ := hE
    have hbox := H.out.far hk1
    have hc23 : w2.cell? ⟨w.heap.size, 3, none⟩ = some (.slice A3 L.length c3) := (blk_cell hbox 3).trans rfl
    have HS : Aside0 (∃ v1 ys, Wr w0.heap.size p w2 v1 ys ∧ ys.length ≤ 1048576 ∧ ((v1.ownBlock = v.ownBlock ∨ ∃ b, v1.ownBlock = some b ∧ w.heap.size ≤ b) ∧ Below w0.heap.size w w2 ∧ Kept w w2 (fun k => k = p ∨ some k = v.ownBlock)) ∧ foldW (fun x ys => wrCell k x (deep + 1) ys) L ys = some (zs, e0)) := by
      obtain ⟨v3, k1, k2, k3, k4⟩ := WrEnd.from (Nat.le_trans H.out.base (Nat.le_of_lt H.out.lt)) (HB.out _) ⟨_, hw1, ho1, hb1, hk1⟩
      have hzz := HZ.out
      rw [show xs.length + 5 = xs.length + (1 + 4) by omega, if_pos HQ.out] at hzz
      refine ⟨v3, _, k1, ?_, ⟨k2, k3, k4⟩, hzz⟩
      simp only [List.length_append, List.length_cons, beB_length]
      omega
    clear hw1 ho1 hb1 hk1 hbox HZ HQ HW
    have hn := HN.out
    go_wp2_with fail
    go_loopg [70] L.length (fun kq s70 wr => ∃ I : Int, s70 = .int .i64 I ∧ Aside0 (0 ≤ I ∧ I ≤ L.length ∧ (L.length : Int) - I = kq) ∧ Aside0 (∃ v1 ys, Wr w0.heap.size p wr v1 ys ∧ ys.length ≤ 1048576 ∧ ((v1.ownBlock = v.ownBlock ∨ ∃ b, v1.ownBlock = some b ∧ w.heap.size ≤ b) ∧ Below w0.heap.size w wr ∧ Kept w wr (fun k => k = p ∨ some k = v.ownBlock)) ∧ foldW (fun x ys => wrCell k x (deep + 1) ys) (L.drop I.toNat) ys = some (zs, e0)))
    case atStart => exact ⟨0, rfl, ⟨by omega, by omega, by omega⟩, HS⟩
    case round =>
      clear HS hc23
      obtain ⟨I, rfl, HI, HA⟩ := hrel
      obtain ⟨v1, ys, hw1, hyl, hst, hf⟩ := HA.out
      have H1 := Aside0.mk hw1
      have HST := Aside0.mk hst
      have HF := Aside0.mk hf
      clear HA hw1 hst hf
      by_cases hlt : I < (L.length : Int)
      · have p0 : (0 ≤ I) = True := eq_true HI.out.1
        have q0 : (I < (L.length : Int)) = True := eq_true hlt
        have d0 : decide (I < (L.length : Int)) = true := decide_eq_true hlt
        obtain ⟨ad, Ax, cx, eA, hx0, hx1, hx2, hx3, hlx, hix⟩ := at_T26 HR.out I HI.out.1 hlt
        have hbr : Below w0.heap.size w0 wr := HBW.out.trans HST.out.2.1
        replace hx0 := (hbr.cell (World.block_lt_of_cell? w0 _ hx0)).trans hx0
        replace hx1 := (hbr.cell (World.block_lt_of_cell? w0 _ hx1)).trans hx1
        replace hx2 := (hbr.cell (World.block_lt_of_cell? w0 _ hx2)).trans hx2
        replace hx3 := (hbr.cell (World.block_lt_of_cell? w0 _ hx3)).trans hx3
        have HBR := Aside0.mk hbr
        have HIX := Aside0.mk hix
        have HLX := Aside0.mk hlx
        clear hbr hix hlx hlt
        cases eA
        have hI0 := HI.out.1
        have hI1 : I < (L.length : Int) := of_eq_true q0
        have hf := HF.out
        rw [drop_rd L I hI0 hI1, foldW] at hf
        obtain ⟨⟨ys2, e2⟩, hx, hf2⟩ := Option.bind_eq_some_iff.mp hf
        have HX := Aside0.mk hx
        have HF2 := Aside0.mk hf2
        have hlen2 : Aside0 (e2 = 0 → ys2.length ≤ 1048576) := ⟨fun e => wrCell_len k _ _ _ _ (by rw [← e]; exact hx)⟩
        clear hf hx hf2 HF hI0 hI1
        go_wp2_with fail
        have hwb : Below wr.heap.size wr (wr.alloc (.cells #[.int .i64 (rd_T26 L I).f0, .int .u64 (rd_T26 L I).f1, .string (rd_T26 L I).f2, .slice Ax (rd_T26 L I).f3.length cx] 26)) := (Below.refl _ _).alloc (Nat.le_refl _) _
        refine (IH.out (rd_T26 L I) Ax cx (deep + 1) _ v1 ys ys2 e2 _ HIX.out HLX.out (HBR.out.trans (hwb.mono (Nat.le_trans H1.out.base (Nat.le_of_lt H1.out.lt)))) (H1.out.below hwb) hyl HD64.out (by simp) HX.out).mono ?_
        rintro e w3 ⟨rfl, hE⟩
        obtain ⟨v3, hw3, ho3, hb3, hk3⟩ := WrEnd.from (Nat.le_trans H1.out.base (Nat.le_of_lt H1.out.lt)) hwb hE
        have hst3 := wr_chain HST.out ⟨ho3, hb3, hk3⟩
        have HST3 := Aside0.mk hst3
        have HW3 := Aside0.mk hw3
        clear hE hw3 ho3 hb3 hk3 hwb hst3 hx0 hx1 hx2 hx3
        by_cases he2 : e2 = 0
        · have HE2 := Aside0.mk he2
          rw [he2, endOf_zero]
          clear he2
          have hw1' : wrap64 (I + 1) = I + 1 := by unfold wrap64; have := HI.out.1; have := HI.out.2.1; omega
          have HW1' := Aside0.mk hw1'
          clear hw1'
          go_wp2
          go_roundg (L.length - (I + 1).toNat)
          case measure => have := HI.out; have := of_eq_true q0; omega
          case rel =>
            have hq := of_eq_true q0
            have hf2 := HF2.out
            rw [if_pos HE2.out] at hf2
            have hi0 := HI.out.1
            have g0 : 0 ≤ I + 1 := by omega
            have g1 : I + 1 ≤ (L.length : Int) := by omega
            have g2 : (L.length : Int) - (I + 1) = ((L.length - (I + 1).toNat : Nat) : Int) := by omega
            refine ⟨I + 1, ?_, ⟨g0, g1, g2⟩, ⟨v3, ys2, HW3.out, hlen2.out HE2.out, HST3.out, hf2⟩⟩
            first | rfl | (congr 1; exact HW1'.out) | (rw [HW1'.out])
        · have HE2 := Aside0.mk he2
          rw [endOf_not he2]
          clear he2
          unfold wrongE
          go_wp2
          unfold bodyPost
          have hf2 := HF2.out
          rw [if_neg HE2.out] at hf2
          simp only [Option.some.injEq, Prod.mk.injEq] at hf2
          obtain ⟨rfl, rfl⟩ := hf2
          exact ⟨rfl, by rw [endOf_not HE2.out]; rfl, ⟨v3, HW3.out, HST3.out⟩⟩
      · have d0 : decide (I < (L.length : Int)) = false := decide_eq_false hlt
        have hf := HF.out
        rw [List.drop_eq_nil_of_le (by omega), foldW] at hf
        simp only [Option.some.injEq, Prod.mk.injEq] at hf
        obtain ⟨rfl, rfl⟩ := hf
        clear hlt
        go_wp2
        go_end0
        exact ⟨rfl, ⟨v1, H1.out, HST.out⟩⟩
  · have HQ := Aside0.mk hq
    rw [hq, endOf_not (by decide)]
    have HE := Aside0.mk (WrEnd.from (Nat.le_trans H.out.base (Nat.le_of_lt H.out.lt)) (HB.out _) hE)
    clear hq hE
    unfold wrongE
    go_wp2
    unfold bodyPost
    have hzz := HZ.out
    rw [show xs.length + 5 = xs.length + (1 + 4) by omega, if_neg (by rw [HQ.out]; decide)] at hzz
    simp only [Option.some.injEq, Prod.mk.injEq] at hzz
    obtain ⟨rfl, rfl⟩ := hzz
    exact ⟨rfl, rfl, HE.out⟩
theorem cell_calls (w0 : World) (p : Nat) : ∀ (k : Nat) (c : S26) (A3 : Option Addr) (c3 deep : Nat) (w : World) (v : Value) (xs zs : List Int) (e0 D : Int), Kd.C k26 w0 A3 c.f3.length c.f3 → c.f3.length ≤ c3 → Below w0.heap.size w0 w → Wr w0.heap.size p w v xs →
      xs.length ≤ 1048576 → deep ≤ 64 → D = (deep : Int) → wrCell k c deep xs = some (zs, e0) →
      Calls Try.prog 26 #[.pointer (some ⟨p, 0, none⟩), .agg #[.int .i64 c.f0, .int .u64 c.f1, .string c.f2, .slice A3 c.f3.length c3], .int .i64 D] w fun e w' => e = endOf e0 ∧ WrEnd w0.heap.size p w v w' zs
  | 0, c, A3, c3, deep, w, v, xs, zs, e0, D, hr, hc3, hbw, h, hl, hd, hD, hz => by simp [wrCell] at hz
  | k + 1, ⟨K, N, S, L⟩, A3, c3, deep, w, v, xs, zs, e0, D, hr, hc3, hbw, h, hl, hd, hD, hz => by
    subst hD
    simp only [wrCell] at hz
    by_cases h0 : K = 0
    · subst h0
      rw [if_pos rfl] at hz
      simp only [Option.some.injEq, Prod.mk.injEq] at hz
      obtain ⟨rfl, rfl⟩ := hz
      exact cell_number w0 p N S (.slice A3 L.length c3) deep w v xs h hl rfl
    · rw [if_neg h0] at hz
      by_cases h1 : K = 1
      · subst h1
        rw [if_pos rfl] at hz
        by_cases hs : 1048576 < S.size
        · rw [if_pos hs] at hz
          simp only [Option.some.injEq, Prod.mk.injEq] at hz
          obtain ⟨rfl, rfl⟩ := hz
          exact cell_long w0 p N S (.slice A3 L.length c3) deep w v xs h rfl hs
        · rw [if_neg hs] at hz
          refine (cell_text w0 p N S (.slice A3 L.length c3) deep w v xs h hl rfl (by omega)).mono ?_
          rintro e w' (⟨h5, he, hE⟩ | ⟨h5, he, hE⟩)
          · rw [if_pos h5] at hz
            simp only [Option.some.injEq, Prod.mk.injEq] at hz
            obtain ⟨rfl, rfl⟩ := hz
            exact ⟨he, hE⟩
          · rw [if_neg h5] at hz
            simp only [Option.some.injEq, Prod.mk.injEq] at hz
            obtain ⟨rfl, rfl⟩ := hz
            exact ⟨he, hE⟩
      · rw [if_neg h1] at hz
        by_cases h2 : K = 2
        · subst h2
          rw [if_pos rfl] at hz
          by_cases hd1 : 64 < deep + 1
          · rw [if_pos hd1] at hz
            simp only [Option.some.injEq, Prod.mk.injEq] at hz
            obtain ⟨rfl, rfl⟩ := hz
            exact cell_deep w0 p N S A3 L.length c3 deep w v xs h hd1 hd
          · rw [if_neg hd1] at hz
            by_cases hn : 1048576 < L.length
            · rw [if_pos hn] at hz
              simp only [Option.some.injEq, Prod.mk.injEq] at hz
              obtain ⟨rfl, rfl⟩ := hz
              exact cell_wide w0 p N S A3 L.length c3 deep w v xs h hd1 hn
            · rw [if_neg hn] at hz
              exact cell_list w0 p k (cell_calls w0 p k) N S L A3 c3 deep w v xs zs e0 hr hc3 hbw h hl hd1 hn hz
        · rw [if_neg h2] at hz
          simp only [Option.some.injEq, Prod.mk.injEq] at hz
          obtain ⟨rfl, rfl⟩ := hz
          exact cell_else w0 p K N S (.slice A3 L.length c3) deep w v xs h rfl h0 h1 h2
end Go.Proofs.Ytjcaieecafggiaa.Pr
