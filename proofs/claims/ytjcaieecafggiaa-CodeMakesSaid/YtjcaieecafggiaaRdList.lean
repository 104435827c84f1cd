/- The reader of package code: cell at a list. -/
import Derived.Test.YtjcaieecafggiaaRdText
import Derived.Deep.RegionLaw
import Derived.Outline
namespace Go.Proofs.Ytjcaieecafggiaa.Pr
open Go.RowKit Go.Proofs.YtjcaieecafggiaaW.PrintWords Go.Proofs.YtjcaieecafggiaaW.PrintLast Go.Proofs.YtjcaieecafggiaaW.PrintMore
set_option linter.unusedVariables false
set_option linter.unusedSimpArgs false
theorem RdEnd.grown {w0 w w1 w2 : World} {p : Nat} {bs : List Int} {row : Option Nat} (h : RdEnd w0 p w w1 bs) (hg : w1.grownBy w2 row) (hr : ∀ k, row = some k → w.heap.size ≤ k ∧ k ≠ p) (h0 : w0.heap.size ≤ w.heap.size) : RdEnd w0 p w w2 bs := by
  obtain ⟨A, c, hb, hr'⟩ := h.rd.blk
  have hs : w.heap.size ≤ w1.heap.size := h.kept.1
  exact ⟨⟨⟨A, c, blk_grown hb hg (fun e => (hr p e.symm).2 rfl), hr'⟩, h.rd.base, h.rd.frm.grown hg (Nat.le_trans h0 hs) (fun k hk => Nat.le_trans h0 (hr k hk).1)⟩, h.below.grown hg (Nat.le_trans h0 hs) (fun k hk => Nat.le_trans h0 (hr k hk).1), h.kept.of_grown hg (fun k hk => .inr (hr k hk).1)⟩
theorem foldR_rest {f : List Int → Option (S26 × List Int × Int)} (hf : ∀ bs c rest e, f bs = some (c, rest, e) → rest.length ≤ bs.length) : ∀ (n : Nat) (acc : List S26) (bs : List Int) (L : List S26) (rest : List Int) (e : Int), foldR f n acc bs = some (L, rest, e) → rest.length ≤ bs.length
  | 0, acc, bs, L, rest, e, h => by simp only [foldR, Option.some.injEq, Prod.mk.injEq] at h; rw [h.2.1]; exact Nat.le_refl _
  | n + 1, acc, bs, L, rest, e, h => by
    simp only [foldR] at h
    obtain ⟨⟨x, r, e2⟩, h1, h2⟩ := Option.bind_eq_some_iff.mp h
    have := hf _ _ _ _ h1
    by_cases he : e2 = 0
    · rw [if_pos he] at h2
      have := foldR_rest hf n _ _ _ _ _ h2
      simp only at this
      omega
    · rw [if_neg he] at h2
      simp only [Option.some.injEq, Prod.mk.injEq] at h2
      rw [← h2.2.1]; omega
theorem rdCell_rest : ∀ (k deep : Nat) (bs : List Int) (c : S26) (rest : List Int) (e : Int), rdCell k deep bs = some (c, rest, e) → rest.length ≤ bs.length
  | 0, deep, bs, c, rest, e, h => by simp [rdCell] at h
  | k + 1, deep, [], c, rest, e, h => by simp only [rdCell, Option.some.injEq, Prod.mk.injEq] at h; rw [← h.2.1]; exact Nat.le_refl _
  | k + 1, deep, b :: bs, c, rest, e, h => by
    simp only [rdCell] at h
    have hs : ∀ {x y : S26} {l r : List Int} {i j : Int}, some (x, l, i) = some (y, r, j) → l.length ≤ bs.length → r.length ≤ bs.length + 1 := by
      intro x y l r i j h1 h2
      simp only [Option.some.injEq, Prod.mk.injEq] at h1
      rw [← h1.2.1]; omega
    rw [List.length_cons]
    repeat' (first | split at h | (exact hs h (by first | omega | (simp only [List.length_drop]; omega))) | (cases h; done))
    obtain ⟨⟨L, r, e2⟩, h1, h2⟩ := Option.map_eq_some_iff.1 h
    have := foldR_rest (fun bs c rest e => rdCell_rest k (deep + 1) bs c rest e) _ _ _ _ _ _ h1
    refine hs (congrArg some h2) ?_
    rw [List.length_drop] at this
    simp only
    omega
theorem cellEnd_zero {w0 w w' : World} {p : Nat} {c : S26} {rest : List Int} {e0 : Int} {e : Ending} (h : CellEnd w0 p w c rest e0 e w') (h0 : e0 = 0) :
    ∃ v3, e = .returned (.agg #[.int .i64 c.f0, .int .u64 c.f1, .string c.f2, v3]) ∧ Kd.R k26 26 w' w.heap.size (fun _ => True) v3 c.f3 ∧ RdEnd w0 p w w' rest := by
  rcases h with ⟨_, h⟩ | ⟨h, _⟩
  · exact h
  · exact absurd h0 h
theorem cellEnd_not {w0 w w' : World} {p : Nat} {c : S26} {rest : List Int} {e0 : Int} {e : Ending} (h : CellEnd w0 p w c rest e0 e w') (h0 : e0 ≠ 0) : e = wrongE e0 ∧ ∃ rest', RdEnd w0 p w w' rest' := by
  rcases h with ⟨h, _⟩ | ⟨_, h⟩
  · exact absurd h h0
  · exact h
set_option maxHeartbeats 1600000 in
set_option maxRecDepth 100000 in
theorem rcell_list {w0 w : World} {p : Nat} {b : Int} {bs : List Int} (h : Rd w0 p w (b :: bs)) (deep : Nat) (hb : wrap64 b = 2) (hd : ¬ 64 < deep + 1) (c : S26) (rest : List Int) (e0 : Int)
    (hl : bs.length ≤ 1048576) (k : Nat)
    (ih : ∀ (deep : Nat) (D : Int) (w : World) (bs : List Int) (c : S26) (rest : List Int) (e0 : Int), Rd w0 p w bs → bs.length ≤ 1048576 → deep ≤ 64 → D = (deep : Int) → rdCell k deep bs = some (c, rest, e0) →
      Calls Try.prog 24 #[.pointer (some ⟨p, 0, none⟩), .int .i64 D] w (CellEnd w0 p w c rest e0))
    (hz : (if bs.length < 4 then some (z26, bs, 3)
      else if ((bs.drop 4).length : Int) < wrap64 (numR (bs.take 4) 0) then some (z26, bs, 3)
      else (foldR (fun ys => rdCell k (deep + 1) ys) (wrap64 (numR (bs.take 4) 0)).toNat [] (bs.drop 4)).map fun r => ((⟨wrap64 b, 0, ⟨#[]⟩, r.1⟩ : S26), r.2.1, r.2.2)) = some (c, rest, e0)) :
    Calls Try.prog 24 #[.pointer (some ⟨p, 0, none⟩), .int .i64 deep] w (CellEnd w0 p w c rest e0) := by
  have hbel : ∀ o, Below w.heap.size w (w.alloc o) := fun o => (Below.refl _ _).alloc (Nat.le_refl _) _
  have HB := Aside0.mk hbel
  have H := Aside0.mk h
  have HZ := Aside0.mk hz
  have hbb0 : (wrap64 b == 0) = false := beq_eq_false_iff_ne.mpr (by omega)
  have hbb1 : (wrap64 b == 1) = false := beq_eq_false_iff_ne.mpr (by omega)
  have hbb : (wrap64 b == 2) = true := beq_iff_eq.mpr hb
  have hdd : decide (64 < (deep : Int) + 1) = false := decide_eq_false (by omega)
  have hd3 : deep ≤ 64 := by omega
  have HD64 : Aside0 (deep + 1 ≤ 64) := ⟨by omega⟩
  have IH := Aside0.mk ih
  have HBB := Aside0.mk hb
  clear h hbel hz hb hd ih
  go_enter Try.func24, Try.ntmps24
  go_wp2_with fail
  refine (take1_calls (H.out.below (HB.out _))).mono ?_
  rintro e w2 ⟨ad, cc, rfl, hc, hx0, hE⟩
  have HE := Aside0.mk hE
  clear hE
  have h42 := HE.out.kept.2 w.heap.size (by simp) (by have := H.out.lt; omega)
  have hb4 : w2.heap[w.heap.size]? = some (.cells #[.int .i64 0, .int .u64 0, .string ⟨#[]⟩, .slice none 0 0] 26 (0, 0)) := h42.trans (heap_at rfl)
  have hp2 := HE.out.rd.lt
  have hps : p < w.heap.size := H.out.lt
  have hne45 : w.heap.size < w2.heap.size := (Array.getElem?_eq_some_iff.1 hb4).1
  obtain ⟨q4, h4⟩ : ∃ q, q = w.heap.size := ⟨_, rfl⟩
  obtain ⟨q5, h5⟩ : ∃ q, q = w2.heap.size := ⟨_, rfl⟩
  have H4 := Aside0.mk h4
  have H5 := Aside0.mk h5
  go_wp2_with fail
  refine (number_calls (HE.out.rd.below ((Below.refl _ _).alloc (Nat.le_refl _) _)) 4 (by omega)).mono ?_
  rintro e w3 (⟨hle, rfl, hE3⟩ | ⟨hlt, rfl, rfl⟩)
  · have hb43 : w3.heap[q4]? = some (.cells #[.int .i64 0, .int .u64 0, .string ⟨#[]⟩, .slice none 0 0] 26 (0, 0)) := by
      rw [h4]
      exact blk_kept ((heap_under hne45).trans hb4) hE3.kept (by omega)
    have hb53 : w3.heap[q5]? = some (.cells #[.int .i64 (wrap64 b), .int .u64 0, .string ⟨#[]⟩, .slice none 0 0] 26 (0, 0)) := by
      rw [h5]
      exact blk_kept (heap_at rfl) hE3.kept (by omega)
    have HE3 := Aside0.mk (HE.out.trans (RdEnd.from HE.out.rd.top ((Below.refl _ _).alloc (Nat.le_refl _) _) hE3))
    rw [← h4, ← h5]
    have hn45 : q4 ≠ q5 := by omega
    have hn54 : q5 ≠ q4 := by omega
    have hp4 : q4 ≠ p := by omega
    have hp5 : q5 ≠ p := by omega
    have HB43 := Aside0.mk hb43
    have HB53 := Aside0.mk hb53
    have HLE := Aside0.mk hle
    have hzz := HZ.out
    rw [if_neg (by omega)] at hzz
    obtain ⟨n, hn⟩ : ∃ n, n = wrap64 (numR (bs.take 4) 0) := ⟨_, rfl⟩
    rw [← hn] at hzz
    have HN := Aside0.mk hn
    obtain ⟨A3, c3, hb3, hcc3, hC3⟩ := hE3.rd.blk
    have hp3 : w3.cell? ⟨p, 0, none⟩ = some (.slice A3 (bs.drop 4).length c3) := (blk_cell hb3 0).trans rfl
    obtain ⟨cs, hcs⟩ : ∃ cs, cs = bs.drop 4 := ⟨_, rfl⟩
    have hcl : cs.length ≤ 1048576 := by rw [hcs, List.length_drop]; omega
    rw [← hcs] at hp3 hzz HE3
    clear hcs hb3 hcc3 hC3
    by_cases hlt : (cs.length : Int) < n
    · rw [if_pos hlt] at hzz
      simp only [Option.some.injEq, Prod.mk.injEq] at hzz
      obtain ⟨rfl, rfl, rfl⟩ := hzz
      have hdl : decide ((cs.length : Int) < n) = true := decide_eq_true hlt
      clear hb43 hb53 hE3 h4 h5 hle hb4 h42 hx0 hlt
      rw [hn] at hdl
      clear hn
      go_wp2_with (go_at_call 34; refine (give_calls _ _).mono ?_; rintro e w' ⟨rfl, rfl⟩)
      unfold bodyPost
      exact ⟨rfl, Or.inr ⟨by decide, rfl, _, (RdEnd.from H.out.top (HB.out _) HE3.out)⟩⟩
    · rw [if_neg hlt] at hzz
      have hdl : decide ((cs.length : Int) < n) = false := decide_eq_false hlt
      have HZZ := Aside0.mk hzz
      have hncs : n ≤ cs.length := by omega
      have hc53 : w3.cell? ⟨q5, 3, none⟩ = some (.slice none 0 0) := (blk_cell hb53 3).trans rfl
      clear hb43 hb53 hE3 h4 h5 hle hb4 h42 hx0 hlt hzz HZ
      rw [hn] at hdl
      clear hn
      go_wp2_with fail
      rw [← HN.out]
      obtain ⟨⟨L, rest', e'⟩, hf, hcc⟩ := Option.map_eq_some_iff.1 HZZ.out
      simp only [Prod.mk.injEq] at hcc
      obtain ⟨rfl, rfl, rfl⟩ := hcc
      have hq53 : q5 < w3.heap.size := blk_lt HB53.out
      have hq43 : q4 < w3.heap.size := blk_lt HB43.out
      have hpw3 : p < w3.heap.size := HE3.out.rd.lt
      have HS : Aside0 (∃ acc cs2 A3 c3, w3.heap[q5]? = some (.cells #[.int .i64 (wrap64 b), .int .u64 0, .string ⟨#[]⟩, .slice A3 acc.length c3] 26 (0, 0)) ∧ w3.heap[q4]? = some (.cells #[.int .i64 0, .int .u64 0, .string ⟨#[]⟩, .slice none 0 0] 26 (0, 0)) ∧
          Kd.R k26 26 w3 w3.heap.size (fun _ => True) (.slice A3 acc.length c3) acc ∧ RdEnd w0 p w w3 cs2 ∧ w3.heap.size ≤ w3.heap.size ∧ cs2.length ≤ 1048576 ∧ (acc.length : Int) = 0 ∧ foldR (fun ys => rdCell k (deep + 1) ys) n.toNat acc cs2 = some (L, rest', e')) := ⟨[], cs, none, 0, HB53.out, HB43.out, Kd.R_nil _ _ _ _ _, RdEnd.from H.out.top (HB.out _) HE3.out, Nat.le_refl _, hcl, rfl, hf⟩
      clear HB53 HB43 HZZ hf hc53 HE3 hdl
      go_loopg [49] n.toNat (fun kq s49 wr => ∃ I : Int, s49 = .int .i64 I ∧ Aside0 (0 ≤ I ∧ (n.toNat : Int) - I = kq) ∧ Aside0 (∃ acc cs2 A3 c3, wr.heap[q5]? = some (.cells #[.int .i64 (wrap64 b), .int .u64 0, .string ⟨#[]⟩, .slice A3 acc.length c3] 26 (0, 0)) ∧ wr.heap[q4]? = some (.cells #[.int .i64 0, .int .u64 0, .string ⟨#[]⟩, .slice none 0 0] 26 (0, 0)) ∧
          Kd.R k26 26 wr w3.heap.size (fun _ => True) (.slice A3 acc.length c3) acc ∧ RdEnd w0 p w wr cs2 ∧ w3.heap.size ≤ wr.heap.size ∧ cs2.length ≤ 1048576 ∧ (acc.length : Int) = I ∧ foldR (fun ys => rdCell k (deep + 1) ys) kq acc cs2 = some (L, rest', e')))
      case atStart => exact ⟨0, rfl, ⟨by omega, by omega⟩, HS⟩
      case round =>
        clear HS
        obtain ⟨I, rfl, HI, HA⟩ := hrel
        obtain ⟨acc, cs2, A5, c5, hb5, hb4', hRr, hE, hle3, hcl2, hal, hff⟩ := HA.out
        have HB5 := Aside0.mk hb5
        have HB4 := Aside0.mk hb4'
        have HR := Aside0.mk hRr
        have HEr := Aside0.mk hE
        have HF := Aside0.mk hff
        have HAL := Aside0.mk hal
        have hqr : q5 < wr.heap.size := by omega
        have hqr4 : q4 < wr.heap.size := by omega
        have hpr : p < wr.heap.size := by omega
        have hc53 : wr.cell? ⟨q5, 3, none⟩ = some (.slice A5 acc.length c5) := (blk_cell hb5 3).trans rfl
        clear HA hb5 hb4' hRr hE hff hal
        cases gk with
        | zero =>
          have hIn : ¬ I < n := by have := HI.out; omega
          have d0 : decide (I < n) = false := decide_eq_false hIn
          have hff := HF.out
          rw [foldR] at hff
          simp only [Option.some.injEq, Prod.mk.injEq] at hff
          obtain ⟨rfl, rfl, rfl⟩ := hff
          have hc50 : wr.cell? ⟨q5, 0, none⟩ = some (.int .i64 (wrap64 b)) := (blk_cell HB5.out 0).trans rfl
          have hc51 : wr.cell? ⟨q5, 1, none⟩ = some (.int .u64 0) := (blk_cell HB5.out 1).trans rfl
          have hc52 : wr.cell? ⟨q5, 2, none⟩ = some (.string ⟨#[]⟩) := (blk_cell HB5.out 2).trans rfl
          have hc40 : wr.cell? ⟨q4, 0, none⟩ = some (.int .i64 0) := (blk_cell HB4.out 0).trans rfl
          have hc41 : wr.cell? ⟨q4, 1, none⟩ = some (.int .u64 0) := (blk_cell HB4.out 1).trans rfl
          have hc42 : wr.cell? ⟨q4, 2, none⟩ = some (.string ⟨#[]⟩) := (blk_cell HB4.out 2).trans rfl
          have hc43 : wr.cell? ⟨q4, 3, none⟩ = some (.slice none 0 0) := (blk_cell HB4.out 3).trans rfl
          have hf4 := blk_frozen HB4.out
          clear hIn
          go_wp2
          have htop := H.out.top
          have hle4 : w.heap.size ≤ q4 := by rw [H4.out]; omega
          have hR2 := Kd.R_mono (Kd.R_bound HR.out) (fun k hk => (⟨by have := hk.2.1; omega, trivial⟩ : k ≠ q4 ∧ True))
          refine cell_fin HB4.out _ _ _ _ _ rfl rfl _ (Or.inl ⟨rfl, _, rfl, ?_, ?_⟩)
          · exact Kd.R_lower (Kd.R_mono (Kd.R_far (Kd.R_far (Kd.R_far (Kd.R_far hR2 (fun _ hk => hk.1) _) (fun _ hk => hk.1) _) (fun _ hk => hk.1) _) (fun _ hk => hk.1) _) (fun _ _ => trivial)) (by omega)
          · exact ((((HEr.out).far hle4 (by omega) _).far hle4 (by omega) _).far hle4 (by omega) _).far hle4 (by omega) _
        | succ j =>
          have hIn : I < n := by have := HI.out; omega
          have d0 : decide (I < n) = true := decide_eq_true hIn
          have hff := HF.out
          rw [foldR] at hff
          obtain ⟨⟨x, rest2, e2⟩, hx, hff2⟩ := Option.bind_eq_some_iff.mp hff
          have HX := Aside0.mk hx
          have HF2 := Aside0.mk hff2
          have hrl : rest2.length ≤ cs2.length := rdCell_rest k _ _ _ _ _ hx
          have hpb : Below wr.heap.size wr wr.drew := below_drew (Below.refl _ _)
          have HPB := Aside0.mk hpb
          have HPR := Aside0.mk (HEr.out.rd.below hpb)
          have hf5 : wr.frozen? ⟨q5, 3, none⟩ = false := blk_frozen HB5.out 3
          have hn53 : q5 ≠ p := by omega
          have hn43 : q4 ≠ p := by omega
          clear hff hx hff2 hIn HF hpb
          by_cases he2 : e2 = 0
          · have HE2 := Aside0.mk he2
            clear he2
            go_wp2_with fail
            go_region_law (first | (go_simp; refine (IH.out (deep + 1) _ _ cs2 x rest2 e2 HPR.out hcl2 HD64.out (by simp) HX.out).mono ?_; rintro e w4 hce; obtain ⟨v3x, rfl, hRx, hE4⟩ := cellEnd_zero hce HE2.out; clear hce; replace hRx : Kd.R k26 26 w4 wr.heap.size (fun _ => True) v3x x.f3 := hRx; obtain ⟨A6, c6, rfl⟩ := Kd.R_slice hRx; have hb54 := blk_kept HB5.out hE4.kept hn53; have hb44 := blk_kept HB4.out hE4.kept hn43; have hc54 : w4.cell? ⟨q5, 3, none⟩ = some (.slice A5 acc.length c5) := (blk_cell hb54 3).trans rfl; have hq54 : q5 < w4.heap.size := blk_lt hb54; have hsz4 : wr.heap.size ≤ w4.heap.size := hE4.kept.1; have HB54 := Aside0.mk hb54; have HB44 := Aside0.mk hb44; have HRX := Aside0.mk hRx; have HE4 := Aside0.mk hE4; have HR4 := Aside0.mk (Kd.R_mono (ok' := fun _ => True) (Kd.R_kept (Kd.R_mono (ok' := fun k => k ≠ p) (Kd.R_bound HR.out) (fun k hk => by have := hk.2.1; omega)) hE4.kept (fun k hk h => hk h)) (fun _ _ => trivial)); clear hb54 hb44 hRx hE4) | (refine Kd.R_append_step k26 (w0 := w4) w3.heap.size (by rfl) (.tmp 52) (.tmp 56) 24 26 _ 56 (by rfl) Try.underlying24 info26 rfl (by decide) (by decide) (.slice A5 acc.length c5) acc x [.int .i64 x.f0, .int .u64 x.f1, .string x.f2, .slice A6 x.f3.length c6] (fun _ => True) (fun k => wr.heap.size ≤ k) (by simp [Act.eval, Act.put]) (by simp [Act.eval, Act.put]) (k26_mkM _ _ _ _ (Kd.R_mono (Kd.R_lower (Kd.R_bound HRX.out) (by omega)) (fun k hk => hk.2.1))) (fun k hk => ⟨trivial, fun e => by have := Kd.R_lt HR.out k e.symm; omega⟩) (fun _ _ => trivial) HR4.out (Below.mk rfl rfl rfl (Nat.le_refl _) (fun _ _ => rfl) : Below w3.heap.size w4 w4) (by omega) (by have := HAL.out; have := HI.out; omega) ?_; intro v1 w5 ho5 hb5 hg5 hat5; obtain ⟨A7, c7, rfl⟩ := Kd.R_slice ho5; have hb55 := blk_grown HB54.out hg5 (fun e => by have := Kd.R_base HR4.out q5 e.symm; omega); have hb45 := blk_grown HB44.out hg5 (fun e => by have := Kd.R_base HR4.out q4 e.symm; omega); have hc55 : w5.cell? ⟨q5, 3, none⟩ = some (.slice A5 acc.length c5) := (blk_cell hb55 3).trans rfl; have hf55 : w5.frozen? ⟨q5, 3, none⟩ = false := blk_frozen hb55 3; have HB55 := Aside0.mk hb55; have HB45 := Aside0.mk hb45; have HG5 := Aside0.mk hg5; have HO5 := Aside0.mk ho5; have HS5 := Aside0.mk hg5.size; clear hb55 hb45 hg5 ho5 hat5 hb5))
            all_goals
              have hzz4 := HS5.out
              have hI1 : wrap64 (I + 1) = I + 1 := by unfold wrap64; have := HI.out; omega
              have HI1 := Aside0.mk hI1
              clear hI1
              go_wp2
              go_roundg j
              case measure => omega
              case rel =>
                have hi := HI.out
                have hal := HAL.out
                have hff2 := HF2.out
                rw [if_pos HE2.out] at hff2
                have htop := H.out.top
                have hle5 : w.heap.size ≤ q5 := by rw [H5.out]; omega
                have hE4' : RdEnd w0 p w w5 rest2 := (HEr.out.trans (RdEnd.from HEr.out.rd.top HPB.out HE4.out)).grown HG5.out (fun k hk => by have := Kd.R_base HR4.out k hk; omega) htop
                have hlen : acc.length + 1 = (acc ++ [x]).length := by simp
                rw [hlen]
                refine ⟨I + 1, ?_, ⟨by omega, by omega⟩, ⟨acc ++ [x], rest2, A7, c7, blk_put HB55.out 3 _ rfl, blk_far HB45.out (by omega) _, ?_, hE4'.far hle5 (by omega) _, ?_, by omega, ?_, hff2⟩⟩
                · first | rfl | (rw [HI1.out])
                · exact Kd.R_mono (Kd.R_far (Kd.R_mono (ok' := fun k => k ≠ q5) (Kd.R_bound HO5.out) (fun k hk => by have := hk.2.1; omega)) (fun _ hk => hk) _) (fun _ _ => trivial)
                · simp only [World.setCell, Array.size_modify]; omega
                · simp only [List.length_append, List.length_singleton]; omega
          · have HE2 := Aside0.mk he2
            clear he2
            have hcall : ∀ W : World, W = wr.drew → Calls Try.prog 24 #[.pointer (some ⟨p, 0, none⟩), .int .i64 ((deep : Int) + 1)] W fun e w' => e = wrongE e2 ∧ ∃ rest', RdEnd w0 p W w' rest' := by
              intro W hW
              subst hW
              exact (IH.out (deep + 1) _ _ cs2 x rest2 e2 HPR.out hcl2 HD64.out (by simp) HX.out).mono fun e w' h => cellEnd_not h HE2.out
            have HC := Aside0.mk hcall
            have hff2 := HF2.out
            rw [if_neg HE2.out] at hff2
            simp only [Option.some.injEq, Prod.mk.injEq] at hff2
            obtain ⟨rfl, rfl, rfl⟩ := hff2
            clear hcall
            go_wp2_with fail
            refine wp_region_any (by kernel_rfl) ?_
            change wpAny _ _ _ _ _ _ _ (World.drew _)
            refine wpAny_take (i := 0) (v := .pointer (some ⟨q5, 3, none⟩)) rfl (by kernel_rfl) (by kernel_rfl) (by kernel_rfl) (fun _ _ _ h => h) (Or.inl ⟨by rfl, by intro w; go_simp⟩) ?_
            refine wpAny_take (i := 2) (v := .pointer (some ⟨p, 0, none⟩)) rfl (by kernel_rfl) (by kernel_rfl) (by kernel_rfl) (fun _ _ _ h => h) (Or.inl ⟨by rfl, by intro w; go_simp⟩) ?_
            refine wpAny_take (i := 3) (v := .int .i64 ((deep : Int) + 1)) rfl (by kernel_rfl) (by kernel_rfl) (by kernel_rfl) (fun _ _ _ h => h) (Or.inl ⟨by rfl, by intro w; go_simp⟩) ?_
            refine wpAny_ready (rs := [1, 4]) (by kernel_rfl) (by simp) ?_
            refine AllReady.cons rfl (fun K hK => ?_) (AllReady.cons rfl (fun K hK => ?_) AllReady.nil)
            · go_simp
              refine hK _ _ ?_
              clear hK K
              refine wpAny_ready (rs := [4]) (by kernel_rfl) (by simp) ?_
              refine AllReady.cons rfl (fun K hK => ?_) AllReady.nil
              go_simp
              refine (HC.out _ rfl).mono ?_
              rintro e w4 ⟨rfl, rest', hE4⟩
              unfold wrongE
              simp only [Exit.inBlock, Exit.then, bodyPost]
              exact ⟨trivial, Or.inr ⟨HE2.out, rfl, rest', HEr.out.trans (RdEnd.from HEr.out.rd.top HPB.out hE4)⟩⟩
            · go_simp
              refine (HC.out _ rfl).mono ?_
              rintro e w4 ⟨rfl, rest', hE4⟩
              unfold wrongE
              simp only [Exit.inBlock, Exit.then, bodyPost]
              exact ⟨trivial, Or.inr ⟨HE2.out, rfl, rest', HEr.out.trans (RdEnd.from HEr.out.rd.top HPB.out hE4)⟩⟩
  · have HE3 := Aside0.mk (HE.out.trans (RdEnd.from HE.out.rd.top ((Below.refl w2.heap.size w2).alloc (Nat.le_refl _) (.cells #[.int .i64 (wrap64 b), .int .u64 0, .string ⟨#[]⟩, .slice none 0 0] 26)) (RdEnd.refl (HE.out.rd.below ((Below.refl _ _).alloc (Nat.le_refl _) _)))))
    have hzz := HZ.out
    rw [if_pos hlt] at hzz
    simp only [Option.some.injEq, Prod.mk.injEq] at hzz
    obtain ⟨rfl, rfl, rfl⟩ := hzz
    clear hb4 h42 h4 h5 hlt
    unfold wrongE
    go_wp2
    unfold bodyPost
    exact ⟨rfl, Or.inr ⟨by decide, rfl, _, (RdEnd.from H.out.top (HB.out _) HE3.out)⟩⟩
set_option maxHeartbeats 1600000 in
set_option maxRecDepth 100000 in
theorem rcell_else {w0 w : World} {p : Nat} {b : Int} {bs : List Int} (h : Rd w0 p w (b :: bs)) (deep : Nat) (hb : wrap64 b ≠ 0) (hb1 : wrap64 b ≠ 1) (hb2 : wrap64 b ≠ 2) :
    Calls Try.prog 24 #[.pointer (some ⟨p, 0, none⟩), .int .i64 deep] w (CellEnd w0 p w z26 bs 4) := by
  have hbel : ∀ o, Below w.heap.size w (w.alloc o) := fun o => (Below.refl _ _).alloc (Nat.le_refl _) _
  have HB := Aside0.mk hbel
  have H := Aside0.mk h
  have hbb0 : (wrap64 b == 0) = false := beq_eq_false_iff_ne.mpr hb
  have hbb1 : (wrap64 b == 1) = false := beq_eq_false_iff_ne.mpr hb1
  have hbb2 : (wrap64 b == 2) = false := beq_eq_false_iff_ne.mpr hb2
  have HBB := Aside0.mk hb
  clear h hbel hb hb1 hb2
  go_enter Try.func24, Try.ntmps24
  go_wp2_with fail
  refine (take1_calls (H.out.below (HB.out _))).mono ?_
  rintro e w2 ⟨ad, cc, rfl, hc, hx0, hE⟩
  have HE := Aside0.mk hE
  clear hE
  have h42 := HE.out.kept.2 w.heap.size (by simp) (by have := H.out.lt; omega)
  have HE3 := Aside0.mk (HE.out.trans (RdEnd.from HE.out.rd.top ((Below.refl w2.heap.size w2).alloc (Nat.le_refl _) (.cells #[.int .i64 (wrap64 b), .int .u64 0, .string ⟨#[]⟩, .slice none 0 0] 26)) (RdEnd.refl (HE.out.rd.below ((Below.refl _ _).alloc (Nat.le_refl _) _)))))
  clear h42
  go_wp2_with (go_at_call 34; refine (give_calls _ _).mono ?_; rintro e w' ⟨rfl, rfl⟩)
  unfold bodyPost
  exact ⟨rfl, Or.inr ⟨by decide, rfl, _, (RdEnd.from H.out.top (HB.out _) HE3.out)⟩⟩
set_option maxHeartbeats 1600000 in
set_option maxRecDepth 100000 in
theorem rcell_deep {w0 w : World} {p : Nat} {b : Int} {bs : List Int} (h : Rd w0 p w (b :: bs)) (deep : Nat) (hb : wrap64 b = 2) (hd : 64 < deep + 1) (hd2 : deep ≤ 64) :
    Calls Try.prog 24 #[.pointer (some ⟨p, 0, none⟩), .int .i64 deep] w (CellEnd w0 p w z26 bs 2) := by
  have hbel : ∀ o, Below w.heap.size w (w.alloc o) := fun o => (Below.refl _ _).alloc (Nat.le_refl _) _
  have HB := Aside0.mk hbel
  have H := Aside0.mk h
  have hbb0 : (wrap64 b == 0) = false := beq_eq_false_iff_ne.mpr (by omega)
  have hbb1 : (wrap64 b == 1) = false := beq_eq_false_iff_ne.mpr (by omega)
  have hbb : (wrap64 b == 2) = true := beq_iff_eq.mpr hb
  have hdd : decide (64 < (deep : Int) + 1) = true := decide_eq_true (by omega)
  have HBB := Aside0.mk hb
  clear h hbel hb hd
  go_enter Try.func24, Try.ntmps24
  go_wp2_with fail
  refine (take1_calls (H.out.below (HB.out _))).mono ?_
  rintro e w2 ⟨ad, cc, rfl, hc, hx0, hE⟩
  have HE := Aside0.mk hE
  clear hE
  have h42 := HE.out.kept.2 w.heap.size (by simp) (by have := H.out.lt; omega)
  have HE3 := Aside0.mk (HE.out.trans (RdEnd.from HE.out.rd.top ((Below.refl w2.heap.size w2).alloc (Nat.le_refl _) (.cells #[.int .i64 (wrap64 b), .int .u64 0, .string ⟨#[]⟩, .slice none 0 0] 26)) (RdEnd.refl (HE.out.rd.below ((Below.refl _ _).alloc (Nat.le_refl _) _)))))
  clear h42
  go_wp2_with (go_at_call 34; refine (give_calls _ _).mono ?_; rintro e w' ⟨rfl, rfl⟩)
  unfold bodyPost
  exact ⟨rfl, Or.inr ⟨by decide, rfl, _, (RdEnd.from H.out.top (HB.out _) HE3.out)⟩⟩
theorem rcell_calls (w0 : World) (p : Nat) : ∀ (k deep : Nat) (D : Int) (w : World) (bs : List Int) (c : S26) (rest : List Int) (e0 : Int), Rd w0 p w bs → bs.length ≤ 1048576 → deep ≤ 64 → D = (deep : Int) → rdCell k deep bs = some (c, rest, e0) →
      Calls Try.prog 24 #[.pointer (some ⟨p, 0, none⟩), .int .i64 D] w (CellEnd w0 p w c rest e0)
  | 0, deep, D, w, bs, c, rest, e0, h, hl, hd, hD, hz => by simp [rdCell] at hz
  | k + 1, deep, D, w, [], c, rest, e0, h, hl, hd, hD, hz => by
    subst hD
    simp only [rdCell, Option.some.injEq, Prod.mk.injEq] at hz
    obtain ⟨rfl, rfl, rfl⟩ := hz
    exact rcell_nil h deep
  | k + 1, deep, D, w, b :: bs, c, rest, e0, h, hl, hd, hD, hz => by
    subst hD
    simp only [rdCell] at hz
    have hl2 : bs.length ≤ 1048576 := by rw [List.length_cons] at hl; omega
    by_cases h0 : wrap64 b = 0
    · rw [if_pos h0] at hz
      exact rcell_number h deep h0 c rest e0 hz
    · rw [if_neg h0] at hz
      by_cases h1 : wrap64 b = 1
      · rw [if_pos h1] at hz
        exact rcell_text h deep h1 c rest e0 hl2 hz
      · rw [if_neg h1] at hz
        by_cases h2 : wrap64 b = 2
        · rw [if_pos h2] at hz
          by_cases h3 : 64 < deep + 1
          · rw [if_pos h3] at hz
            simp only [Option.some.injEq, Prod.mk.injEq] at hz
            obtain ⟨rfl, rfl, rfl⟩ := hz
            exact rcell_deep h deep h2 h3 hd
          · rw [if_neg h3] at hz
            exact rcell_list h deep h2 h3 c rest e0 hl2 k (rcell_calls w0 p k) hz
        · rw [if_neg h2] at hz
          simp only [Option.some.injEq, Prod.mk.injEq] at hz
          obtain ⟨rfl, rfl, rfl⟩ := hz
          exact rcell_else h deep h0 h1 h2
end Go.Proofs.Ytjcaieecafggiaa.Pr
