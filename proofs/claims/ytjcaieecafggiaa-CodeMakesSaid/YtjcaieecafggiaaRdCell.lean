/- The reader of package code: what bytes tell; cell. -/
import Derived.Test.YtjcaieecafggiaaRd
namespace Go.Proofs.Ytjcaieecafggiaa.Pr
open Go.RowKit Go.Proofs.YtjcaieecafggiaaW.PrintWords Go.Proofs.YtjcaieecafggiaaW.PrintLast Go.Proofs.YtjcaieecafggiaaW.PrintMore
set_option linter.unusedVariables false
set_option linter.unusedSimpArgs false
/-- So many, one behind the other, till one of them ends otherwise than with 0. -/
def foldR (f : List Int → Option (S26 × List Int × Int)) : Nat → List S26 → List Int → Option (List S26 × List Int × Int)
  | 0, acc, bs => some (acc, bs, 0)
  | n + 1, acc, bs => (f bs).bind fun r => if r.2.2 = 0 then foldR f n (acc ++ [r.1]) r.2.1 else some (acc, r.2.1, r.2.2)
/-- The cell that bytes begin with, and what is left of them. -/
def rdCell : Nat → Nat → List Int → Option (S26 × List Int × Int)
  | 0, _, _ => none
  | k + 1, deep, [] => some (z26, [], 3)
  | k + 1, deep, b :: bs =>
    if wrap64 b = 0 then
      if bs.length < 8 then some (z26, bs, 3) else some (⟨wrap64 b, numR (bs.take 8) 0, ⟨#[]⟩, []⟩, bs.drop 8, 0)
    else if wrap64 b = 1 then
      if bs.length < 4 then some (z26, bs, 3)
      else if 0 ≤ wrap64 (numR (bs.take 4) 0) then
        if ((bs.drop 4).length : Int) < wrap64 (numR (bs.take 4) 0) then some (z26, bs, 3)
        else some (⟨wrap64 b, 0, strOfNums ((bs.drop 4).take (wrap64 (numR (bs.take 4) 0)).toNat), []⟩, (bs.drop 4).drop (wrap64 (numR (bs.take 4) 0)).toNat, 0)
      else none
    else if wrap64 b = 2 then
      if 64 < deep + 1 then some (z26, bs, 2)
      else if bs.length < 4 then some (z26, bs, 3)
      else if ((bs.drop 4).length : Int) < wrap64 (numR (bs.take 4) 0) then some (z26, bs, 3)
      else (foldR (fun ys => rdCell k (deep + 1) ys) (wrap64 (numR (bs.take 4) 0)).toNat [] (bs.drop 4)).map fun r => (⟨wrap64 b, 0, ⟨#[]⟩, r.1⟩, r.2.1, r.2.2)
    else some (z26, bs, 4)
/-- What cell comes to. -/
def CellEnd (w0 : World) (p : Nat) (w : World) (c : S26) (rest : List Int) (e0 : Int) (e : Ending) (w' : World) : Prop :=
  (e0 = 0 ∧ ∃ v3, e = .returned (.agg #[.int .i64 c.f0, .int .u64 c.f1, .string c.f2, v3]) ∧ Kd.R k26 26 w' w.heap.size (fun _ => True) v3 c.f3 ∧ RdEnd w0 p w w' rest) ∨ (e0 ≠ 0 ∧ e = wrongE e0 ∧ ∃ rest', RdEnd w0 p w w' rest')
set_option maxHeartbeats 1600000 in
set_option maxRecDepth 100000 in
theorem rcell_nil {w0 w : World} {p : Nat} (h : Rd w0 p w []) (deep : Nat) :
    Calls Try.prog 24 #[.pointer (some ⟨p, 0, none⟩), .int .i64 deep] w (CellEnd w0 p w z26 [] 3) := by
  have hbel : ∀ o, Below w.heap.size w (w.alloc o) := fun o => (Below.refl _ _).alloc (Nat.le_refl _) _
  have HB := Aside0.mk hbel
  have H := Aside0.mk h
  clear h hbel
  go_enter Try.func24, Try.ntmps24
  go_wp2_with fail
  refine (takes_calls (H.out.below (HB.out _)) 1 (by omega)).mono ?_
  rintro e w2 (⟨hle, _⟩ | ⟨hlt, rfl, rfl⟩)
  · exact absurd hle (by simp)
  · have HE := Aside0.mk (RdEnd.from H.out.top (HB.out _) (RdEnd.refl (H.out.below (HB.out (.cells #[.int .i64 0, .int .u64 0, .string ⟨#[]⟩, .slice none 0 0] 26)))))
    clear hlt
    unfold wrongE
    go_wp2
    unfold bodyPost
    exact ⟨rfl, Or.inr ⟨by decide, rfl, _, HE.out⟩⟩
theorem RdEnd.far {w0 w w1 : World} {p q j : Nat} {bs : List Int} (h : RdEnd w0 p w w1 bs) (hq : w.heap.size ≤ q) (hpq : p ≠ q) (v : Value) (h0 : w0.heap.size ≤ w.heap.size := by first | assumption | omega) : RdEnd w0 p w (w1.setCell ⟨q, j, none⟩ v) bs := by
  obtain ⟨A, c, hb, hr⟩ := h.rd.blk
  exact ⟨⟨⟨A, c, blk_far hb hpq _, hr⟩, h.rd.base, h.rd.frm.setCell (Nat.le_trans h0 hq) _⟩, h.below.setCell (Nat.le_trans h0 hq) _, h.kept.setCell (p := ⟨q, j, none⟩) (.inr hq) _⟩
theorem take1_calls {w0 w : World} {p : Nat} {b : Int} {bs : List Int} (h : Rd w0 p w (b :: bs)) :
    Calls Try.prog 32 #[.pointer (some ⟨p, 0, none⟩), .int .i64 1] w fun e w' => ∃ ad c, e = .returned (.slice (some ad) 1 c) ∧ 1 ≤ c ∧ w'.cell? ad = some (.int .u8 b) ∧ RdEnd w0 p w w' bs := by
  refine (takes_calls h 1 (by omega)).mono ?_
  rintro e w2 (⟨hle, A, cc, rfl, hc, hC, hE⟩ | ⟨hlt, rfl, rfl⟩)
  · have hC1 : Kd.C (Kd.int .u8) w0 A 1 [b] := by simpa using hC
    obtain ⟨ad, eA, hx0⟩ := Kd.at_int hC1 0 (by omega) (by omega)
    replace hx0 := (hE.rd.frm.cell (World.block_lt_of_cell? w0 _ hx0)).trans hx0
    subst eA
    exact ⟨ad, cc, by simp, by simpa using hc, by simpa [rd, Addr.add] using hx0, by simpa using hE⟩
  · simp at hlt
    omega
theorem cell_fin {W : World} {q4 : Nat} {c0 c1 c2 c3 : Value} (h4 : W.heap[q4]? = some (.cells #[c0, c1, c2, c3] 26 (0, 0))) (K N S V : Value) (a : Act) (hd : a.defers = []) (hq : a.tmps.getD 4 undef = .pointer (some ⟨q4, 0, none⟩)) (R : Ending → World → Prop)
    (hR : R (.returned (.agg #[K, N, S, V])) ((((W.setCell ⟨q4, 0, none⟩ K).setCell ⟨q4, 1, none⟩ N).setCell ⟨q4, 2, none⟩ S).setCell ⟨q4, 3, none⟩ V)) :
    bodyPost Try.prog Try.f24 R Exit.ret a ((((W.setCell ⟨q4, 0, none⟩ K).setCell ⟨q4, 1, none⟩ N).setCell ⟨q4, 2, none⟩ S).setCell ⟨q4, 3, none⟩ V) := by
  have h5 : ((((W.setCell ⟨q4, 0, none⟩ K).setCell ⟨q4, 1, none⟩ N).setCell ⟨q4, 2, none⟩ S).setCell ⟨q4, 3, none⟩ V).heap[q4]? = some (.cells #[K, N, S, V] 26 (0, 0)) :=
    blk_put (cs := #[K, N, S, c3]) (blk_put (cs := #[K, N, c2, c3]) (blk_put (cs := #[K, c1, c2, c3]) (blk_put (cs := #[c0, c1, c2, c3]) h4 0 K rfl) 1 N rfl) 2 S rfl) 3 V rfl
  generalize ((((W.setCell ⟨q4, 0, none⟩ K).setCell ⟨q4, 1, none⟩ N).setCell ⟨q4, 2, none⟩ S).setCell ⟨q4, 3, none⟩ V) = W5 at h5 hR ⊢
  refine ⟨hd, _, ?_, hR⟩
  have e0 : W5.cell? ⟨q4, 0, none⟩ = some K := (blk_cell h5 0).trans rfl
  have e1 : W5.cell? ⟨q4, 1, none⟩ = some N := (blk_cell h5 1).trans rfl
  have e2 : W5.cell? ⟨q4, 2, none⟩ = some S := (blk_cell h5 2).trans rfl
  have e3 : W5.cell? ⟨q4, 3, none⟩ = some V := (blk_cell h5 3).trans rfl
  have hq2 : a.tmps[4]?.getD undef = .pointer (some ⟨q4, 0, none⟩) := by simpa using hq
  simp [results, Try.results24, go_sem, hq2, e0, e1, e2, e3]
set_option maxHeartbeats 1600000 in
set_option maxRecDepth 100000 in
theorem rcell_number {w0 w : World} {p : Nat} {b : Int} {bs : List Int} (h : Rd w0 p w (b :: bs)) (deep : Nat) (hb : wrap64 b = 0) (c : S26) (rest : List Int) (e0 : Int)
    (hz : (if bs.length < 8 then some (z26, bs, 3) else some ((⟨wrap64 b, numR (bs.take 8) 0, ⟨#[]⟩, []⟩ : S26), bs.drop 8, (0 : Int))) = some (c, rest, e0)) :
    Calls Try.prog 24 #[.pointer (some ⟨p, 0, none⟩), .int .i64 deep] w (CellEnd w0 p w c rest e0) := by
  have hbel : ∀ o, Below w.heap.size w (w.alloc o) := fun o => (Below.refl _ _).alloc (Nat.le_refl _) _
  have HB := Aside0.mk hbel
  have H := Aside0.mk h
  have HZ := Aside0.mk hz
  have hbb : (wrap64 b == 0) = true := beq_iff_eq.mpr hb
  have HBB := Aside0.mk hb
  clear h hbel hz hb
  go_enter Try.func24, Try.ntmps24
  go_wp2_with fail
  refine (take1_calls (H.out.below (HB.out _))).mono ?_
  rintro e w2 ⟨ad, cc, rfl, hc, hx0, hE⟩
  have HE := Aside0.mk hE
  clear hE
  have h42 := HE.out.kept.2 w.heap.size (by simp) (by have := H.out.lt; omega)
  have hb4 : w2.heap[w.heap.size]? = some (.cells #[.int .i64 0, .int .u64 0, .string ⟨#[]⟩, .slice none 0 0] 26 (0, 0)) := h42.trans (heap_at rfl)
  have hp2 := HE.out.rd.lt
  have hps : p < w.heap.size := H.out.lt
  have hne45 : w.heap.size < w2.heap.size := (Array.getElem?_eq_some_iff.1 hb4).1
  obtain ⟨q4, h4⟩ : ∃ q, q = w.heap.size := ⟨_, rfl⟩
  obtain ⟨q5, h5⟩ : ∃ q, q = w2.heap.size := ⟨_, rfl⟩
  have H4 := Aside0.mk h4
  have H5 := Aside0.mk h5
  go_wp2_with fail
  refine (number_calls (HE.out.rd.below ((Below.refl _ _).alloc (Nat.le_refl _) _)) 8 (by omega)).mono ?_
  rintro e w3 (⟨hle, rfl, hE3⟩ | ⟨hlt, rfl, rfl⟩)
  · have hb43 : w3.heap[q4]? = some (.cells #[.int .i64 0, .int .u64 0, .string ⟨#[]⟩, .slice none 0 0] 26 (0, 0)) := by
      rw [h4]
      exact blk_kept ((heap_under hne45).trans hb4) hE3.kept (by omega)
    have hb53 : w3.heap[q5]? = some (.cells #[.int .i64 (wrap64 b), .int .u64 0, .string ⟨#[]⟩, .slice none 0 0] 26 (0, 0)) := by
      rw [h5]
      exact blk_kept (heap_at rfl) hE3.kept (by omega)
    have HE3 := Aside0.mk (HE.out.trans (RdEnd.from HE.out.rd.top ((Below.refl _ _).alloc (Nat.le_refl _) _) hE3))
    rw [← h4, ← h5]
    have hn45 : q4 ≠ q5 := by omega
    have hn54 : q5 ≠ q4 := by omega
    have hc50 : w3.cell? ⟨q5, 0, none⟩ = some (.int .i64 (wrap64 b)) := (blk_cell hb53 0).trans rfl
    have hc51 : w3.cell? ⟨q5, 1, none⟩ = some (.int .u64 0) := (blk_cell hb53 1).trans rfl
    have hc52 : w3.cell? ⟨q5, 2, none⟩ = some (.string ⟨#[]⟩) := (blk_cell hb53 2).trans rfl
    have hc53 : w3.cell? ⟨q5, 3, none⟩ = some (.slice none 0 0) := (blk_cell hb53 3).trans rfl
    have hc40 : w3.cell? ⟨q4, 0, none⟩ = some (.int .i64 0) := (blk_cell hb43 0).trans rfl
    have hc41 : w3.cell? ⟨q4, 1, none⟩ = some (.int .u64 0) := (blk_cell hb43 1).trans rfl
    have hc42 : w3.cell? ⟨q4, 2, none⟩ = some (.string ⟨#[]⟩) := (blk_cell hb43 2).trans rfl
    have hc43 : w3.cell? ⟨q4, 3, none⟩ = some (.slice none 0 0) := (blk_cell hb43 3).trans rfl
    have hf5 := blk_frozen hb53
    have hf4 := blk_frozen hb43
    have HB43 := Aside0.mk hb43
    have HB53 := Aside0.mk hb53
    have HLE := Aside0.mk hle
    clear hb43 hb53 hE3 h4 h5 hle hb4 h42 hx0
    go_wp2
    have hzz := HZ.out
    rw [if_neg (by have := HLE.out; omega)] at hzz
    simp only [Option.some.injEq, Prod.mk.injEq] at hzz
    obtain ⟨rfl, rfl, rfl⟩ := hzz
    refine cell_fin (blk_far HB43.out hn45 _) _ _ _ _ _ rfl rfl _ (Or.inl ⟨rfl, _, rfl, Kd.R_nil _ _ _ _ _, ?_⟩)
    have htop := H.out.top
    have hle5 : w.heap.size ≤ q5 := by rw [H5.out]; omega
    have hle4 : w.heap.size ≤ q4 := by rw [H4.out]; omega
    exact (((((RdEnd.from H.out.top (HB.out _) HE3.out).far hle5 (by omega) _).far hle4 (by omega) _).far hle4 (by omega) _).far hle4 (by omega) _).far hle4 (by omega) _
  · have HE3 := Aside0.mk (HE.out.trans (RdEnd.from HE.out.rd.top ((Below.refl w2.heap.size w2).alloc (Nat.le_refl _) (.cells #[.int .i64 (wrap64 b), .int .u64 0, .string ⟨#[]⟩, .slice none 0 0] 26)) (RdEnd.refl (HE.out.rd.below ((Below.refl _ _).alloc (Nat.le_refl _) _)))))
    have hzz := HZ.out
    rw [if_pos hlt] at hzz
    simp only [Option.some.injEq, Prod.mk.injEq] at hzz
    obtain ⟨rfl, rfl, rfl⟩ := hzz
    clear hb4 h42 h4 h5 hlt
    unfold wrongE
    go_wp2
    unfold bodyPost
    exact ⟨rfl, Or.inr ⟨by decide, rfl, _, (RdEnd.from H.out.top (HB.out _) HE3.out)⟩⟩
end Go.Proofs.Ytjcaieecafggiaa.Pr
