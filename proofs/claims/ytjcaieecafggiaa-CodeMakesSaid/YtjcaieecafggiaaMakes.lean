/- CodeMakes: what its loops write over, and what they leave. -/
import Derived.Test.YtjcaieecafggiaaSame
namespace Go.Proofs.Ytjcaieecafggiaa.Pr
open Go.RowKit Go.Proofs.YtjcaieecafggiaaW.PrintWords Go.Proofs.YtjcaieecafggiaaW.PrintLast Go.Proofs.YtjcaieecafggiaaW.PrintMore
set_option linter.unusedVariables false
set_option linter.unusedSimpArgs false
theorem k26_heap : Kd.Heap k26 := Kd.heap_fix (fun _ h_ => Kd.heap_iso _ (Kd.heap_pair (Kd.heap_int .i64) (Kd.heap_pair (Kd.heap_int .u64) (Kd.heap_pair Kd.heap_string (Kd.heap_slice 26 h_)))))
theorem heap_set_at {W : World} {b : Nat} {cs : Array Value} {t : TypeId} {f : Nat × Nat} (h : W.heap[b]? = some (.cells cs t f)) (o : Nat) (u : Value) : (W.setCell ⟨b, o, none⟩ u).heap[b]? = some (.cells (cs.setIfInBounds o u) t f) := by
  unfold World.setCell
  simp only [Array.getElem?_modify, if_pos, h]
  rfl
/-- A row of cells in a block between lo and hi that is not g; or none. -/
def MkEl (W : World) (lo hi g : Nat) (v : Value) : Prop :=
  ∃ A n c, v = .slice A n c ∧ (n = 0 ∨ ∃ b cs, A = some ⟨b, 0, none⟩ ∧ W.heap[b]? = some (.cells cs 26 (0, 0)) ∧ n * 4 ≤ cs.size ∧ b ≠ g ∧ lo ≤ b ∧ b < hi ∧ n ≤ maxLen)
theorem MkEl.set {W : World} {lo hi g : Nat} {v : Value} (h : MkEl W lo hi g v) (b o : Nat) (u : Value) : MkEl (W.setCell ⟨b, o, none⟩ u) lo hi g v := by
  obtain ⟨A, n, c, rfl, h⟩ := h
  refine ⟨A, n, c, rfl, ?_⟩
  rcases h with h | ⟨b', cs, hA, hb, hs, hn, h1, h2⟩
  · exact .inl h
  · by_cases he : b' = b
    · subst he
      exact .inr ⟨b', _, hA, heap_set_at hb o u, by simpa using hs, hn, h1, h2⟩
    · exact .inr ⟨b', cs, hA, (Below.heap_setCell W ⟨b, o, none⟩ u b' he).trans hb, hs, hn, h1, h2⟩
/-- The row in block g, from its element i on, is as it was given; blocks below lo and from hi on are as in W0. -/
structure MkInv (lo hi g n i : Nat) (W0 W : World) : Prop where
  same : ∀ k, k < lo ∨ hi ≤ k → W.heap[k]? = W0.heap[k]?
  bel : Below lo W0 W
  row : ∃ cs, W.heap[g]? = some (.cells cs 26 (0, 0)) ∧ n * 4 ≤ cs.size ∧ ∀ j, i ≤ j → j < n → ∃ v, cs[j * 4 + 3]? = some v ∧ MkEl W lo hi g v
  nle : n ≤ maxLen
  glo : lo ≤ g
  ghi : g < hi
theorem MkInv.set {lo hi g n i : Nat} {W0 W : World} (h : MkInv lo hi g n i W0 W) (b o : Nat) (u : Value) (hlo : lo ≤ b) (hhi : b < hi) (hg : b = g → o < i * 4) : MkInv lo hi g n i W0 (W.setCell ⟨b, o, none⟩ u) := by
  refine ⟨fun k hk => (Below.heap_setCell W ⟨b, o, none⟩ u k (by show k ≠ b; omega)).trans (h.same k hk), h.bel.setCell hlo u, ?_, h.nle, h.glo, h.ghi⟩
  obtain ⟨cs, hc, hs, hel⟩ := h.row
  by_cases he : b = g
  · subst he
    refine ⟨_, heap_set_at hc o u, by simpa using hs, fun j hj hjn => ?_⟩
    obtain ⟨v, hv, hm⟩ := hel j hj hjn
    have := hg rfl
    exact ⟨v, by rw [Array.getElem?_setIfInBounds_ne (by omega)]; exact hv, hm.set b o u⟩
  · refine ⟨cs, (Below.heap_setCell W ⟨b, o, none⟩ u g (Ne.symm he)).trans hc, hs, fun j hj hjn => ?_⟩
    obtain ⟨v, hv, hm⟩ := hel j hj hjn
    exact ⟨v, hv, hm.set b o u⟩
theorem MkInv.next {lo hi g n i : Nat} {W0 W : World} (h : MkInv lo hi g n i W0 W) : MkInv lo hi g n (i + 1) W0 W := by
  obtain ⟨h1, h2, ⟨cs, h3, h4, h5⟩, h6, h7, h8⟩ := h
  exact ⟨h1, h2, ⟨cs, h3, h4, fun j hj => h5 j (by omega)⟩, h6, h7, h8⟩
theorem MkInv.set4 {lo hi g n i : Nat} {W0 W : World} (h : MkInv lo hi g n i W0 W) (b o : Nat) (u0 u1 u2 u3 : Value) (hlo : lo ≤ b) (hhi : b < hi) (hg : b = g → o + 3 < i * 4) :
    MkInv lo hi g n i W0 ((((W.setCell ⟨b, o, none⟩ u0).setCell ⟨b, o + 1, none⟩ u1).setCell ⟨b, o + 2, none⟩ u2).setCell ⟨b, o + 3, none⟩ u3) :=
  (((h.set b o u0 hlo hhi (fun e => by have := hg e; omega)).set b (o + 1) u1 hlo hhi (fun e => by have := hg e; omega)).set b (o + 2) u2 hlo hhi (fun e => by have := hg e; omega)).set b (o + 3) u3 hlo hhi hg
theorem MkInv.el {lo hi g n I : Nat} {W0 W : World} {cs : Array Value} {A : Option Addr} {m c : Nat} (h : MkInv lo hi g n I W0 W) (hc : W.heap[g]? = some (.cells cs 26 (0, 0))) (hv : cs[I * 4 + 3]? = some (.slice A m c)) (hI : I < n) (hm : 0 < m) :
    ∃ b csb, A = some ⟨b, 0, none⟩ ∧ W.heap[b]? = some (.cells csb 26 (0, 0)) ∧ m * 4 ≤ csb.size ∧ b ≠ g ∧ lo ≤ b ∧ b < hi ∧ m ≤ maxLen := by
  obtain ⟨cs2, hc2, _, hel⟩ := h.row
  obtain ⟨v, hv2, A2, n2, c2, rfl, hE⟩ := hel I (Nat.le_refl _) hI
  rw [hc] at hc2
  injection hc2 with hc2
  injection hc2 with hc2
  subst hc2
  rw [hv] at hv2
  injection hv2 with hv2
  injection hv2 with e1 e2 e3
  subst e1 e2 e3
  exact hE.resolve_left (by omega)
theorem heap_set4 {W : World} {g b : Nat} (h : g ≠ b) (o : Nat) (u0 u1 u2 u3 : Value) : ((((W.setCell ⟨b, o, none⟩ u0).setCell ⟨b, o + 1, none⟩ u1).setCell ⟨b, o + 2, none⟩ u2).setCell ⟨b, o + 3, none⟩ u3).heap[g]? = W.heap[g]? :=
  (Below.heap_setCell _ ⟨b, o + 3, none⟩ u3 g h).trans ((Below.heap_setCell _ ⟨b, o + 2, none⟩ u2 g h).trans ((Below.heap_setCell _ ⟨b, o + 1, none⟩ u1 g h).trans (Below.heap_setCell _ ⟨b, o, none⟩ u0 g h)))
theorem cell_in {W : World} {b : Nat} {cs : Array Value} {t : TypeId} (h : W.heap[b]? = some (.cells cs t (0, 0))) (o : Nat) (ho : o < cs.size) : ∃ u, W.cell? ⟨b, o, none⟩ = some u := ⟨_, (blk_cell h o).trans (Array.getElem?_eq_getElem ho)⟩
/-- A row that is made: its blocks. -/
theorem MkInv.made {lo hi : Nat} {W : World} {A : Option Addr} {c : Nat} {L : List S26} (h : Kd.R k26 26 W lo (fun k => k < hi) (.slice A L.length c) L) :
    L.length = 0 ∨ ∃ g, A = some ⟨g, 0, none⟩ ∧ MkInv lo hi g L.length 0 W W := by
  have hR := h
  obtain ⟨h0, inner, hown, hr⟩ := h
  rcases hown.2 with ⟨e, _⟩ | ⟨g, cap, cur, e, hbg, hg, hnc, hcm, hcs, htake⟩
  · injection e with _ e2 _
    exact .inl e2
  · injection e with e1 e2 e3
    subst e1 e3
    refine .inr ⟨g, rfl, fun k _ => rfl, Below.refl _ _, ⟨cur, hg, ?_, fun j _ hj => ?_⟩, by omega, hbg, h0 g rfl⟩
    · have hsz : k26.sz = 4 := rfl
      rw [hsz] at hcs
      omega
    · obtain ⟨cs, hlen, hM, hcell, _⟩ := Kd.R_elem hR z26 (j : Int) (by omega) (by omega)
      obtain ⟨v3, rfl, h3⟩ := k26_openM hM
      have h4 := hcell 3 v3 rfl
      have h5 : W.cell? ⟨g, j * 4 + 3, none⟩ = some v3 := h4
      refine ⟨v3, (blk_cell hg (j * 4 + 3)).symm.trans h5, ?_⟩
      obtain ⟨q0, inner3, hown3, _⟩ := h3
      rcases hown3.2 with ⟨e, _⟩ | ⟨b, cap3, cur3, e, hb3, hg3, hnc3, hcm3, hcs3, _⟩
      · exact ⟨none, 0, 0, e, .inl rfl⟩
      · subst e
        have hsz : k26.sz = 4 := rfl
        rw [hsz] at hcs3
        exact ⟨_, _, _, rfl, .inr ⟨b, cur3, rfl, hg3, by omega, (q0 b rfl).2, hb3, (q0 b rfl).1, by omega⟩⟩
/-- Two rows made one behind the other, and a block that is new behind both. -/
def Apart2 (lo : Nat) (W : World) (v1 v2 : Value) (L1 L2 : List S26) : Prop := ∃ B, lo ≤ B ∧ B ≤ W.heap.size ∧ Kd.R k26 26 W lo (fun k => k < B) v1 L1 ∧ Kd.R k26 26 W lo (fun k => B ≤ k) v2 L2
def Apart3 (lo : Nat) (W : World) (v1 v2 : Value) (L1 L2 : List S26) (p : Nat) : Prop := ∃ B, lo ≤ B ∧ B ≤ p ∧ Kd.R k26 26 W lo (fun k => k < B) v1 L1 ∧ Kd.R k26 26 W lo (fun k => B ≤ k ∧ k ≠ p) v2 L2
theorem Apart2.made {lo : Nat} {W W1 : World} {ok ok2 : Nat → Prop} {v1 v2 : Value} {L1 L2 : List S26} (h1 : Kd.R k26 26 W lo ok v1 L1) (hb : Below W.heap.size W W1) (h2 : Kd.R k26 26 W1 W.heap.size ok2 v2 L2) (hs : lo ≤ W.heap.size) : Apart2 lo W1 v1 v2 L1 L2 :=
  ⟨W.heap.size, hs, hb.size, Kd.R_below (Kd.R_mono (Kd.R_bound h1) (fun k hk => hk.2.2.1)) hb, Kd.R_lower (Kd.R_mono (Kd.R_bound h2) (fun k hk => hk.2.1)) hs⟩
theorem Apart2.box {lo : Nat} {W W1 : World} {v1 v2 : Value} {L1 L2 : List S26} {p : Nat} (h : Apart2 lo W v1 v2 L1 L2) (hp : p = W.heap.size) (hb : Below W.heap.size W W1) : Apart3 lo W1 v1 v2 L1 L2 p := by
  obtain ⟨B, h1, h2, h3, h4⟩ := h
  exact ⟨B, h1, by omega, Kd.R_below h3 hb, Kd.R_below (Kd.R_elderB h4 p (Nat.le_of_eq hp.symm)) hb⟩
theorem Apart3.set {lo : Nat} {W : World} {v1 v2 : Value} {L1 L2 : List S26} {p : Nat} (h : Apart3 lo W v1 v2 L1 L2 p) (o : Nat) (u : Value) : Apart3 lo (W.setCell ⟨p, o, none⟩ u) v1 v2 L1 L2 p := by
  obtain ⟨B, h1, h2, h3, h4⟩ := h
  exact ⟨B, h1, h2, Kd.R_far (p := ⟨p, o, none⟩) h3 (fun k hk => by show k ≠ p; omega) u, Kd.R_far (p := ⟨p, o, none⟩) h4 (fun k hk => hk.2) u⟩
end Go.Proofs.Ytjcaieecafggiaa.Pr
