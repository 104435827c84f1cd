/- slices.Clone of cells, code.own and code.List: contracts of their calls. -/
import Derived.Test.YtjcaieecafggiaaDecode
import Derived.WalkSpells
import Derived.Outline
import Derived.Deep.RegionLaw
namespace Go.Proofs.Ytjcaieecafggiaa.Pr
open Go.RowKit Go.Proofs.YtjcaieecafggiaaW.PrintWords Go.Proofs.YtjcaieecafggiaaW.PrintLast Go.Proofs.YtjcaieecafggiaaW.PrintMore
set_option linter.unusedVariables false
set_option linter.unusedSimpArgs false
/-- A cell that is read where it lay in w0, or one of the call's own. -/
def pickK (w0 : World) : Kd (S26 × Bool) where
  sz := 4
  E := k26.E
  K := fun w p cs => if p.2 then k26.K w p.1 cs else k26.K w0 p.1 cs
  M := fun w base ok p cs => if p.2 then k26.M w base ok p.1 cs else k26.K w0 p.1 cs
  K_len := fun {w p cs} h => by
    obtain ⟨x, b⟩ := p
    cases b
    · exact k26.K_len (show k26.K w0 x cs from h)
    · exact k26.K_len (show k26.K w x cs from h)
  K_one := fun {w p cs} h => by
    obtain ⟨x, b⟩ := p
    cases b
    · exact k26.K_one (show k26.K w0 x cs from h)
    · exact k26.K_one (show k26.K w x cs from h)
  K_below := fun {w w1 p cs} hb h => by
    obtain ⟨x, b⟩ := p
    cases b
    · exact h
    · exact k26.K_below hb (show k26.K w x cs from h)
  K_of_M := fun {w base ok p cs} h => by
    obtain ⟨x, b⟩ := p
    cases b
    · exact h
    · exact k26.K_of_M (show k26.M w base ok x cs from h)
  M_mono := fun {w base ok ok' p cs} ho h => by
    obtain ⟨x, b⟩ := p
    cases b
    · exact h
    · exact k26.M_mono ho (show k26.M w base ok x cs from h)
  M_bound := fun {w base ok p cs} h => by
    obtain ⟨x, b⟩ := p
    cases b
    · exact h
    · exact k26.M_bound (show k26.M w base ok x cs from h)
  M_move := fun {w w1 base ok p cs} hm h => by
    obtain ⟨x, b⟩ := p
    cases b
    · exact h
    · exact k26.M_move hm (show k26.M w base ok x cs from h)
  M_lower := fun {w base base' ok p cs} hb h => by
    obtain ⟨x, b⟩ := p
    cases b
    · exact h
    · exact k26.M_lower hb (show k26.M w base ok x cs from h)
/-- The first i are the call's own. -/
def marks (L : List S26) (i : Nat) : List (S26 × Bool) := (List.range L.length).map fun (j : Nat) => (rd_T26 L (j : Int), decide (j < i))
theorem marks_length (L : List S26) (i : Nat) : (marks L i).length = L.length := by simp [marks]
theorem rd_at (L : List S26) (j : Nat) (h : j < L.length) : rd_T26 L (j : Int) = L[j] := by
  unfold rd_T26
  rw [Int.toNat_natCast, List.getD_eq_getElem?_getD, List.getElem?_eq_getElem h]
  rfl
theorem marks_at {L : List S26} {i j : Nat} {p : S26 × Bool} (h : (marks L i)[j]? = some p) : L[j]? = some p.1 ∧ p.2 = decide (j < i) := by
  obtain ⟨hl, hp⟩ := List.getElem?_eq_some_iff.1 h
  rw [marks_length] at hl
  simp only [marks, List.getElem_map, List.getElem_range] at hp
  subst hp
  exact ⟨by rw [List.getElem?_eq_getElem hl]; simp [rd_at L j hl], rfl⟩
theorem marks_next (L : List S26) (i : Nat) (h : i < L.length) : (marks L i).set i (L[i], true) = marks L (i + 1) := by
  apply List.ext_getElem
  · rw [List.length_set, marks_length, marks_length]
  · intro j h1 h2
    rw [marks_length] at h2
    rw [List.getElem_set]
    by_cases e : i = j
    · subst e
      rw [if_pos rfl]
      simp [marks, rd_at L i h]
    · rw [if_neg e]
      simp only [marks, List.getElem_map, List.getElem_range, Prod.mk.injEq, true_and, decide_eq_decide]
      omega
theorem R_of_marks {w0 w : World} {base : Nat} {ok : Nat → Prop} {v : Value} {L : List S26} (h : Kd.R (pickK w0) 26 w base ok v (marks L L.length)) : Kd.R k26 26 w base ok v L := by
  obtain ⟨h0, inner, ho, hr⟩ := h
  refine ⟨h0, inner, by rw [marks_length] at ho; exact ho, by rw [hr.1, marks_length]; rfl, fun j x hj => ?_⟩
  obtain ⟨hl, hx⟩ := List.getElem?_eq_some_iff.1 hj
  have hp : (marks L L.length)[j]? = some (x, true) := by
    simp [marks, hl, rd_at L j hl, hx]
  exact hr.2 j (x, true) hp
theorem reads_marks {w : World} {A : Option Addr} {L : List S26} (h : Kd.C k26 w A L.length L) : ReadsRow (fun (p : S26 × Bool) cs => p.2 = false ∧ k26.K w p.1 cs) 4 w A L.length (marks L 0) := by
  refine ⟨marks_length L 0, h.2.1, fun hp => ?_⟩
  obtain ⟨ad, e, hc⟩ := h.2.2 hp
  refine ⟨ad, e, fun j p hj => ?_⟩
  obtain ⟨h1, h2⟩ := marks_at hj
  obtain ⟨c, hc1, hc2, hc3⟩ := hc j p.1 h1
  exact ⟨c, hc1, ⟨by rw [h2]; simp, hc2⟩, hc3⟩
/-- What Clone comes to. -/
def CloneEnd (w0 w : World) (L : List S26) (e : Ending) (w' : World) : Prop :=
  ∃ A c, e = .returned (.slice A L.length c) ∧ Kd.R (pickK w0) 26 w' w.heap.size (fun _ => True) (.slice A L.length c) (marks L 0) ∧ Below w.heap.size w w'
set_option maxHeartbeats 1600000 in
set_option maxRecDepth 100000 in
theorem clone_calls (A : Option Addr) (c : Nat) (L : List S26) (w0 w : World) (hb0 : Below w0.heap.size w0 w) (hr : Kd.C k26 w0 A L.length L) (hl : L.length ≤ 2513169434916) :
    Calls Try.prog 38 #[.slice A L.length c] w (CloneEnd w0 w L) := by
  have heq := fun (W : World) (n c : Nat) => Lib.run_eql_slice_nil (P := Try.prog) W 24 26 A n c 0 0 Try.underlying24
  rcases A with _ | ad
  · have h0 : L = [] := by
      rcases L with _ | ⟨x, L⟩
      · rfl
      · obtain ⟨ad, h, _⟩ := hr.2.2 (by simp)
        cases h
    subst h0
    clear hr hl hb0
    go_enter Try.func38, Try.ntmps38
    go_wp2
    go_ret
    exact ⟨none, 0, rfl, Kd.R_nil _ _ _ _ _, Below.refl _ _⟩
  · have HR := Aside0.mk (reads_marks hr)
    have HB0 := Aside0.mk hb0
    clear hr hb0
    go_enter Try.func38, Try.ntmps38
    have hb1 : Below w.heap.size w (w.alloc (.cells #[] 26)) := (Below.refl _ _).alloc (Nat.le_refl _) _
    have HE : Aside0 (Kd.R (pickK w0) 26 (w.alloc (.cells #[] 26)) w.heap.size (fun _ => True) (.slice (some ⟨w.heap.size, 0, none⟩) 0 0) []) := ⟨⟨fun _ _ => trivial, [], World.ownsRow_made w #[] 0 (Nat.le_refl _) (by simp [maxLen]) rfl, Reps.none _ _⟩⟩
    have HB := Aside0.mk hb1
    clear hb1
    go_wp2_with (at_builtin; go_must (refine Kd.R_append_rows (pickK w0) (w0 := w) w.heap.size rfl (.tmp 5) (.tmp 6) 24 26 _ 56 rfl Try.underlying24 info26 rfl (show 0 < 4 by decide) (by decide) (.slice (some ⟨w.heap.size, 0, none⟩) 0 0) [] (marks L 0) (some ad) L.length c (fun _ => True) (fun _ => False) rfl rfl HE.out (ReadsRow.imp_ HR.out (below_alloc HB0.out _) (fun _ _ h => h)) (fun x cs h => ?_) (fun _ h => h.elim) (fun _ _ => trivial) HB.out (by simp) (by simp; omega) ?_))
    · obtain ⟨x, b⟩ := x
      obtain ⟨rfl, hk⟩ := h
      exact hk
    · intro v1 w1 ho hb hg hat
      obtain ⟨A1, c1, rfl⟩ := Kd.R_slice ho
      have HO := Aside0.mk ho
      have HB1 := Aside0.mk hb
      have hml := marks_length L 0
      clear ho hb hg hat
      rw [hml] at HO ⊢
      clear hml HE
      go_wp2
      go_ret
      exact ⟨A1, c1, rfl, HO.out, HB1.out⟩
/-- A tree of so little depth, and so little width. -/
def fits : Nat → S26 → Bool
  | 0, _ => false
  | k + 1, c => decide (c.f3.length ≤ 2513169434916) && c.f3.all (fits k)
theorem fits_at {k : Nat} {L : List S26} (h : L.all (fits k) = true) (I : Int) (h0 : 0 ≤ I) (h1 : I < (L.length : Int)) : fits k (rd_T26 L I) = true := by
  have hi : I.toNat < L.length := by omega
  obtain ⟨i, rfl⟩ := Int.eq_ofNat_of_zero_le h0
  rw [rd_at L i (by simpa using hi)]
  exact List.all_eq_true.1 h _ (List.getElem_mem _)
theorem own_fin {W : World} {q4 : Nat} {c0 c1 c2 c3 : Value} (h4 : W.heap[q4]? = some (.cells #[c0, c1, c2, c3] 26 (0, 0))) (K N S V : Value) (a : Act) (hd : a.defers = []) (hq : a.tmps.getD 2 undef = .pointer (some ⟨q4, 0, none⟩)) (R : Ending → World → Prop)
    (hR : R (.returned (.agg #[K, N, S, V])) ((((W.setCell ⟨q4, 0, none⟩ K).setCell ⟨q4, 1, none⟩ N).setCell ⟨q4, 2, none⟩ S).setCell ⟨q4, 3, none⟩ V)) :
    bodyPost Try.prog Try.f29 R Exit.ret a ((((W.setCell ⟨q4, 0, none⟩ K).setCell ⟨q4, 1, none⟩ N).setCell ⟨q4, 2, none⟩ S).setCell ⟨q4, 3, none⟩ V) := by
  have h5 : ((((W.setCell ⟨q4, 0, none⟩ K).setCell ⟨q4, 1, none⟩ N).setCell ⟨q4, 2, none⟩ S).setCell ⟨q4, 3, none⟩ V).heap[q4]? = some (.cells #[K, N, S, V] 26 (0, 0)) :=
    blk_put (cs := #[K, N, S, c3]) (blk_put (cs := #[K, N, c2, c3]) (blk_put (cs := #[K, c1, c2, c3]) (blk_put (cs := #[c0, c1, c2, c3]) h4 0 K rfl) 1 N rfl) 2 S rfl) 3 V rfl
  generalize ((((W.setCell ⟨q4, 0, none⟩ K).setCell ⟨q4, 1, none⟩ N).setCell ⟨q4, 2, none⟩ S).setCell ⟨q4, 3, none⟩ V) = W5 at h5 hR ⊢
  refine ⟨hd, _, ?_, hR⟩
  have e0 : W5.cell? ⟨q4, 0, none⟩ = some K := (blk_cell h5 0).trans rfl
  have e1 : W5.cell? ⟨q4, 1, none⟩ = some N := (blk_cell h5 1).trans rfl
  have e2 : W5.cell? ⟨q4, 2, none⟩ = some S := (blk_cell h5 2).trans rfl
  have e3 : W5.cell? ⟨q4, 3, none⟩ = some V := (blk_cell h5 3).trans rfl
  have hq2 : a.tmps[2]?.getD undef = .pointer (some ⟨q4, 0, none⟩) := by simpa using hq
  simp [results, Try.results29, go_sem, hq2, e0, e1, e2, e3]
theorem list_fin {W : World} {q4 : Nat} {c0 c1 c2 c3 : Value} (h4 : W.heap[q4]? = some (.cells #[c0, c1, c2, c3] 26 (0, 0))) (K N S V : Value) (a : Act) (hd : a.defers = []) (hq : a.tmps.getD 2 undef = .pointer (some ⟨q4, 0, none⟩)) (R : Ending → World → Prop)
    (hR : R (.returned (.agg #[K, N, S, V])) ((((W.setCell ⟨q4, 0, none⟩ K).setCell ⟨q4, 1, none⟩ N).setCell ⟨q4, 2, none⟩ S).setCell ⟨q4, 3, none⟩ V)) :
    bodyPost Try.prog Try.f15 R Exit.ret a ((((W.setCell ⟨q4, 0, none⟩ K).setCell ⟨q4, 1, none⟩ N).setCell ⟨q4, 2, none⟩ S).setCell ⟨q4, 3, none⟩ V) := by
  have h5 : ((((W.setCell ⟨q4, 0, none⟩ K).setCell ⟨q4, 1, none⟩ N).setCell ⟨q4, 2, none⟩ S).setCell ⟨q4, 3, none⟩ V).heap[q4]? = some (.cells #[K, N, S, V] 26 (0, 0)) :=
    blk_put (cs := #[K, N, S, c3]) (blk_put (cs := #[K, N, c2, c3]) (blk_put (cs := #[K, c1, c2, c3]) (blk_put (cs := #[c0, c1, c2, c3]) h4 0 K rfl) 1 N rfl) 2 S rfl) 3 V rfl
  generalize ((((W.setCell ⟨q4, 0, none⟩ K).setCell ⟨q4, 1, none⟩ N).setCell ⟨q4, 2, none⟩ S).setCell ⟨q4, 3, none⟩ V) = W5 at h5 hR ⊢
  refine ⟨hd, _, ?_, hR⟩
  have e0 : W5.cell? ⟨q4, 0, none⟩ = some K := (blk_cell h5 0).trans rfl
  have e1 : W5.cell? ⟨q4, 1, none⟩ = some N := (blk_cell h5 1).trans rfl
  have e2 : W5.cell? ⟨q4, 2, none⟩ = some S := (blk_cell h5 2).trans rfl
  have e3 : W5.cell? ⟨q4, 3, none⟩ = some V := (blk_cell h5 3).trans rfl
  have hq2 : a.tmps[2]?.getD undef = .pointer (some ⟨q4, 0, none⟩) := by simpa using hq
  simp [results, Try.results15, go_sem, hq2, e0, e1, e2, e3]
/-- What own comes to. -/
def OwnEnd (w : World) (c : S26) (e : Ending) (w' : World) : Prop :=
  ∃ v3, e = .returned (.agg #[.int .i64 c.f0, .int .u64 c.f1, .string c.f2, v3]) ∧ Kd.R k26 26 w' w.heap.size (fun _ => True) v3 c.f3 ∧ Below w.heap.size w w'
set_option maxHeartbeats 1600000 in
set_option maxRecDepth 100000 in
theorem own_step (k : Nat) (ih : ∀ (c : S26) (A3 : Option Addr) (c3 : Nat) (w : World), fits k c = true → Kd.C k26 w A3 c.f3.length c.f3 → c.f3.length ≤ c3 →
      Calls Try.prog 29 #[.agg #[.int .i64 c.f0, .int .u64 c.f1, .string c.f2, .slice A3 c.f3.length c3]] w (OwnEnd w c))
    (K N : Int) (S : ByteArray) (L : List S26) (A3 : Option Addr) (c3 : Nat) (w : World) (hf1 : L.length ≤ 2513169434916) (hf2 : L.all (fits k) = true) (hr : Kd.C k26 w A3 L.length L) (hc3 : L.length ≤ c3) :
    Calls Try.prog 29 #[.agg #[.int .i64 K, .int .u64 N, .string S, .slice A3 L.length c3]] w (OwnEnd w ⟨K, N, S, L⟩) := by
  have IH := Aside0.mk ih
  have HR := Aside0.mk hr
  have HF2 := Aside0.mk hf2
  clear ih hr hf2
  go_enter Try.func29, Try.ntmps29
  go_wp2_with fail
  have hW1 : Below w.heap.size w ((w.alloc (.cells #[.int .i64 K, .int .u64 N, .string S, .slice A3 L.length c3] 26)).alloc (.cells #[.int .i64 0, .int .u64 0, .string ⟨#[]⟩, .slice none 0 0] 26)) := by
    repeat (first | exact Below.refl _ _ | apply below_alloc)
  obtain ⟨W, hWe⟩ : ∃ W, W = (w.alloc (.cells #[.int .i64 K, .int .u64 N, .string S, .slice A3 L.length c3] 26)).alloc (.cells #[.int .i64 0, .int .u64 0, .string ⟨#[]⟩, .slice none 0 0] 26) := ⟨_, rfl⟩
  have hsz : W.heap.size = w.heap.size + 1 + 1 := by rw [hWe]; simp
  have hq1 : W.heap[w.heap.size]? = some (.cells #[.int .i64 K, .int .u64 N, .string S, .slice A3 L.length c3] 26 (0, 0)) := by
    rw [hWe]; exact (heap_under (by simp)).trans (heap_at rfl)
  have hq2 : W.heap[w.heap.size + 1]? = some (.cells #[.int .i64 0, .int .u64 0, .string ⟨#[]⟩, .slice none 0 0] 26 (0, 0)) := by
    rw [hWe]; exact heap_at (by simp)
  rw [← hWe]
  rw [← hWe] at hW1
  clear hWe
  refine (clone_calls A3 c3 L w W hW1 HR.out hf1).mono ?_
  rintro e w2 ⟨A, c, rfl, hRc, hbc⟩
  have hb21 : w2.heap[w.heap.size]? = _ := (hbc.block _ (by omega)).trans hq1
  have hb22 : w2.heap[w.heap.size + 1]? = _ := (hbc.block _ (by omega)).trans hq2
  have hc23 : w2.cell? ⟨w.heap.size, 3, none⟩ = some (.slice A3 L.length c3) := (blk_cell hb21 3).trans rfl
  have hf21 := blk_frozen hb21 3
  have HB21 := Aside0.mk hb21
  have HB22 := Aside0.mk hb22
  have HRC := Aside0.mk hRc
  have HBC := Aside0.mk hbc
  have HW1 := Aside0.mk hW1
  have HSZ := Aside0.mk hsz
  have hs2 : w.heap.size + 1 + 1 ≤ w2.heap.size := by have := hbc.size; omega
  clear hb21 hb22 hRc hbc hW1 hsz hq1 hq2 HR
  go_wp2_with fail
  obtain ⟨q1, hq1⟩ : ∃ q, q = w.heap.size := ⟨_, rfl⟩
  obtain ⟨q2, hq2⟩ : ∃ q, q = w.heap.size + 1 := ⟨_, rfl⟩
  rw [← hq2, ← hq1]
  rw [← hq2] at HB22
  rw [← hq1] at HB21 hc23 hf21
  have HQ1 := Aside0.mk hq1
  have HQ2 := Aside0.mk hq2
  have hq12 : q1 < q2 := by omega
  have hq1s : q1 < W.heap.size := by have := HSZ.out; omega
  have hq2s : q2 < W.heap.size := by have := HSZ.out; omega
  have HS : Aside0 ((w2.setCell ⟨q1, 3, none⟩ (.slice A L.length c)).heap[q1]? = some (.cells #[.int .i64 K, .int .u64 N, .string S, .slice A L.length c] 26 (0, 0)) ∧ (w2.setCell ⟨q1, 3, none⟩ (.slice A L.length c)).heap[q2]? = some (.cells #[.int .i64 0, .int .u64 0, .string ⟨#[]⟩, .slice none 0 0] 26 (0, 0)) ∧
      Kd.R (pickK w) 26 (w2.setCell ⟨q1, 3, none⟩ (.slice A L.length c)) W.heap.size (fun _ => True) (.slice A L.length c) (marks L 0) ∧ Below w.heap.size w (w2.setCell ⟨q1, 3, none⟩ (.slice A L.length c)) ∧ W.heap.size ≤ (w2.setCell ⟨q1, 3, none⟩ (.slice A L.length c)).heap.size) := by
    refine ⟨blk_put HB21.out 3 _ rfl, blk_far HB22.out (by simp; omega) _, ?_, ?_, ?_⟩
    · exact Kd.R_mono (Kd.R_far (Kd.R_mono (ok' := fun k => k ≠ q1) (Kd.R_bound HRC.out) (fun k hk => by have := hk.2.1; omega)) (fun _ hk => hk) _) (fun _ _ => trivial)
    · exact below_set (HW1.out.trans (HBC.out.mono (by have := HSZ.out; omega))) (by omega)
    · simp only [World.setCell, Array.size_modify]; exact HBC.out.size
  obtain ⟨wo, hwo⟩ : ∃ wo, wo = w2.setCell ⟨q1, 3, none⟩ (.slice A L.length c) := ⟨_, rfl⟩
  rw [← hwo] at HS ⊢
  clear hwo HB21 HB22 hc23 hf21 hq1 hq2 hs2 HRC HBC
  go_loopg [11] L.length (fun kq s11 wr => ∃ I : Int, s11 = .int .i64 I ∧ Aside0 (0 ≤ I ∧ I ≤ L.length ∧ (L.length : Int) - I = kq) ∧ Aside0 (wr.heap[q1]? = some (.cells #[.int .i64 K, .int .u64 N, .string S, .slice A L.length c] 26 (0, 0)) ∧ wr.heap[q2]? = some (.cells #[.int .i64 0, .int .u64 0, .string ⟨#[]⟩, .slice none 0 0] 26 (0, 0)) ∧
      Kd.R (pickK w) 26 wr W.heap.size (fun _ => True) (.slice A L.length c) (marks L I.toNat) ∧ Below w.heap.size w wr ∧ W.heap.size ≤ wr.heap.size))
  case atStart => exact ⟨0, rfl, ⟨by omega, by omega, by omega⟩, HS⟩
  case round =>
    clear HS
    obtain ⟨I, rfl, HI, HA⟩ := hrel
    obtain ⟨hb1, hb2, hRr, hbw, hsw⟩ := HA.out
    have hc13 : wr.cell? ⟨q1, 3, none⟩ = some (.slice A L.length c) := (blk_cell hb1 3).trans rfl
    have HB1 := Aside0.mk hb1
    have HB2 := Aside0.mk hb2
    have HRR := Aside0.mk hRr
    have HBW := Aside0.mk hbw
    have hqr1 : q1 < wr.heap.size := by omega
    clear HA hb1 hb2 hRr hbw
    by_cases hlt : I < (L.length : Int)
    · have p0 : (0 ≤ I) = True := eq_true HI.out.1
      have q0 : (I < (L.length : Int)) = True := eq_true hlt
      have d0 : decide (I < (L.length : Int)) = true := decide_eq_true hlt
      obtain ⟨g, cap, hv⟩ : ∃ g cap, Value.slice A L.length c = .slice (some ⟨g, 0, none⟩) L.length cap := by
        obtain ⟨_, inner, ho, _⟩ := HRR.out
        obtain ⟨g, cap, hv, _⟩ := ho.form (by rw [marks_length]; have := HI.out.1; omega)
        rw [marks_length] at hv
        exact ⟨g, cap, hv⟩
      injection hv with hv1 _ hv2
      subst hv1 hv2
      obtain ⟨cs, hcl, hM, hcc, hfr⟩ := Kd.R_elem HRR.out (z26, false) I HI.out.1 hlt
      have hIn : I.toNat < L.length := by have := HI.out.1; omega
      have hrdI : rd_T26 L I = L[I.toNat] := by
        have := rd_at L I.toNat hIn
        rw [← this]; congr 1; have := HI.out.1; omega
      have hmk : (marks L I.toNat).getD I.toNat (z26, false) = (rd_T26 L I, false) := by
        rw [List.getD_eq_getElem?_getD, List.getElem?_eq_getElem (by rw [marks_length]; exact hIn), hrdI]
        have hII : ((I.toNat : Nat) : Int) = I := by have := HI.out.1; omega
        simp only [marks, List.getElem_map, List.getElem_range, hII, hrdI]
        simp
      rw [hmk] at hM
      obtain ⟨Ax, cx, rfl, hlx, hix⟩ := k26_open (show k26.K w (rd_T26 L I) cs from hM)
      have hsz4 : (pickK w).sz = 4 := rfl
      rw [hsz4] at hcc hfr
      have hx0 : wr.cell? ⟨g, I.toNat * 4, none⟩ = some (.int .i64 (rd_T26 L I).f0) := hcc 0 _ rfl
      have hx1 : wr.cell? ⟨g, I.toNat * 4 + 1, none⟩ = some (.int .u64 (rd_T26 L I).f1) := hcc 1 _ rfl
      have hx2 : wr.cell? ⟨g, I.toNat * 4 + 2, none⟩ = some (.string (rd_T26 L I).f2) := hcc 2 _ rfl
      have hx3 : wr.cell? ⟨g, I.toNat * 4 + 3, none⟩ = some (.slice Ax (rd_T26 L I).f3.length cx) := hcc 3 _ rfl
      have hbase := Kd.R_base HRR.out g (by simp [Value.ownBlock])
      have hgl := Kd.R_lt HRR.out g (by simp [Value.ownBlock])
      have HCX := Aside0.mk hcc
      have HLX := Aside0.mk hlx
      have HIX := Aside0.mk hix
      have HFI := Aside0.mk (fits_at HF2.out I HI.out.1 hlt)
      have hne : g ≠ q1 := by omega
      have hne' : q1 ≠ g := by omega
      clear hlt hcc hcl hM hfr hlx hix hmk hrdI hsz4
      have HIX2 : Aside0 (Kd.C k26 wr.drew Ax (rd_T26 L I).f3.length (rd_T26 L I).f3) := ⟨Kd.C_below HIX.out (below_drew HBW.out)⟩
      obtain ⟨cells, hbg⟩ : ∃ cells, wr.heap[g]? = some (.cells cells 26 (0, 0)) := Kd.R_typed HRR.out g (by simp [Value.ownBlock]) 
      have HBG := Aside0.mk hbg
      have hzr := blk_frozen hbg
      clear hbg
      go_wp2_with fail
      go_region_law (go_simp; refine (IH.out (rd_T26 L I) Ax cx wr.drew HFI.out HIX2.out HLX.out).mono ?_; rintro e w4 ⟨v3x, rfl, hRx, hbx⟩; replace hbx : Below wr.heap.size wr w4 := ⟨hbx.os, hbx.tape, hbx.output, hbx.size, hbx.block⟩; obtain ⟨A6, c6, rfl⟩ := Kd.R_slice hRx; have hc14 : w4.cell? ⟨q1, 3, none⟩ = some (.slice (some ⟨g, 0, none⟩) L.length c) := pw_cell_below hbx hc13; have hy0 := pw_cell_below hbx hx0; have hy1 := pw_cell_below hbx hx1; have hy2 := pw_cell_below hbx hx2; have hy3 := pw_cell_below hbx hx3; have hg4 : w4.heap[g]? = _ := (hbx.block g hgl).trans HBG.out; have hz4 := blk_frozen hg4; have HRX := Aside0.mk hRx; have HBX := Aside0.mk hbx; clear hRx hbx hg4)
      all_goals
        have hw1' : wrap64 (I + 1) = I + 1 := by unfold wrap64; have := HI.out; omega
        have HW1' := Aside0.mk hw1'
        have hs4 : wr.heap.size ≤ w4.heap.size := HBX.out.size
        have hcc4 : ∀ (j : Nat) (u : Value), [Value.int IntKind.i64 (rd_T26 L I).f0, Value.int IntKind.u64 (rd_T26 L I).f1, Value.string (rd_T26 L I).f2, Value.slice Ax (rd_T26 L I).f3.length cx][j]? = some u → w4.cell? ⟨g, I.toNat * (pickK w).sz + j, none⟩ = some u := fun j u h => pw_cell_below HBX.out (HCX.out j u h)
        have hM4 : (pickK w).M w4 W.heap.size (fun k => wr.heap.size ≤ k) (rd_T26 L I, true) [Value.int IntKind.i64 (rd_T26 L I).f0, Value.int IntKind.u64 (rd_T26 L I).f1, Value.string (rd_T26 L I).f2, Value.slice A6 (rd_T26 L I).f3.length c6] :=
          k26_mkM _ _ _ _ (Kd.R_mono (Kd.R_lower (Kd.R_bound HRX.out) hsw) (fun k hk => hk.2.1))
        have hseg := Kd.R_seg (Kd.R_below HRR.out HBX.out) I HI.out.1 (of_eq_true q0) (j := 0) (seg := [Value.int IntKind.i64 (rd_T26 L I).f0, Value.int IntKind.u64 (rd_T26 L I).f1, Value.string (rd_T26 L I).f2, Value.slice A6 (rd_T26 L I).f3.length c6]) rfl hcc4 (Nat.le_refl 4) (x' := (rd_T26 L I, true)) hM4 (fun k hk => ⟨trivial, by omega⟩)
        have HSEG := Aside0.mk hseg
        clear hseg hM4 hcc4 hw1'
        go_wp2
        go_roundg (L.length - (I + 1).toNat)
        case measure => have := HI.out; have := of_eq_true q0; omega
        case rel =>
          have hq := of_eq_true q0
          have hi0 := HI.out.1
          have g0 : 0 ≤ I + 1 := by omega
          have g1 : I + 1 ≤ (L.length : Int) := by omega
          have g2 : (L.length : Int) - (I + 1) = ((L.length - (I + 1).toNat : Nat) : Int) := by omega
          obtain ⟨k1, k2⟩ := HSEG.out
          have hIn : I.toNat < L.length := by omega
          have hmm : (marks L I.toNat).set I.toNat (rd_T26 L I, true) = marks L (I + 1).toNat := by
            have hrdI : rd_T26 L I = L[I.toNat] := by
              have := rd_at L I.toNat hIn
              rw [← this]; congr 1; omega
            rw [hrdI, marks_next L I.toNat hIn, show (I + 1).toNat = I.toNat + 1 by omega]
          rw [hmm] at k1
          refine ⟨I + 1, by first | rfl | rw [HW1'.out], ⟨g0, g1, g2⟩, ⟨(k2.block q1 (by omega) (fun e => hne' (by injection e))).trans ((HBX.out.block q1 (by omega)).trans HB1.out), (k2.block q2 (by omega) (fun e => by injection e with e; omega)).trans ((HBX.out.block q2 (by omega)).trans HB2.out), k1, ?_, ?_⟩⟩
          · exact (HBW.out.trans (HBX.out.mono HBW.out.size)).grown k2 (by have := HBW.out.size; omega) (fun k hk => by injection hk with hk; have := HSZ.out; omega)
          · exact Nat.le_trans (by omega) k2.size
    · have d0 : decide (I < (L.length : Int)) = false := decide_eq_false hlt
      have hIL : I.toNat = L.length := by have := HI.out; omega
      have hc50 : wr.cell? ⟨q1, 0, none⟩ = some (.int .i64 K) := (blk_cell HB1.out 0).trans rfl
      have hc51 : wr.cell? ⟨q1, 1, none⟩ = some (.int .u64 N) := (blk_cell HB1.out 1).trans rfl
      have hc52 : wr.cell? ⟨q1, 2, none⟩ = some (.string S) := (blk_cell HB1.out 2).trans rfl
      have hc40 : wr.cell? ⟨q2, 0, none⟩ = some (.int .i64 0) := (blk_cell HB2.out 0).trans rfl
      have hc41 : wr.cell? ⟨q2, 1, none⟩ = some (.int .u64 0) := (blk_cell HB2.out 1).trans rfl
      have hc42 : wr.cell? ⟨q2, 2, none⟩ = some (.string ⟨#[]⟩) := (blk_cell HB2.out 2).trans rfl
      have hc43 : wr.cell? ⟨q2, 3, none⟩ = some (.slice none 0 0) := (blk_cell HB2.out 3).trans rfl
      have hf4 := blk_frozen HB2.out
      have HIL := Aside0.mk hIL
      clear hlt hIL
      go_wp2
      have hR1 := HRR.out
      rw [HIL.out] at hR1
      have hR2 := Kd.R_mono (Kd.R_bound (R_of_marks hR1)) (fun k hk => (⟨by have := hk.2.1; omega, trivial⟩ : k ≠ q2 ∧ True))
      refine own_fin HB2.out _ _ _ _ _ rfl rfl _ ⟨_, rfl, ?_, ?_⟩
      · exact Kd.R_lower (Kd.R_mono (Kd.R_far (Kd.R_far (Kd.R_far (Kd.R_far hR2 (fun _ hk => hk.1) _) (fun _ hk => hk.1) _) (fun _ hk => hk.1) _) (fun _ hk => hk.1) _) (fun _ _ => trivial)) (by have := HSZ.out; omega)
      · have hq2 : w.heap.size ≤ q2 := by have := HQ2.out; omega
        exact below_set (below_set (below_set (below_set HBW.out hq2) hq2) hq2) hq2
theorem own_calls : ∀ (k : Nat) (c : S26) (A3 : Option Addr) (c3 : Nat) (w : World), fits k c = true → Kd.C k26 w A3 c.f3.length c.f3 → c.f3.length ≤ c3 →
      Calls Try.prog 29 #[.agg #[.int .i64 c.f0, .int .u64 c.f1, .string c.f2, .slice A3 c.f3.length c3]] w (OwnEnd w c)
  | 0, c, A3, c3, w, h, hr, hc => by simp [fits] at h
  | k + 1, ⟨K, N, S, L⟩, A3, c3, w, h, hr, hc => by
    simp only [fits, Bool.and_eq_true, decide_eq_true_eq] at h
    exact own_step k (own_calls k) K N S L A3 c3 w h.1 h.2 hr hc
def code_List.f (k : Nat) (l0 : List S26) : Option (Int × Int × ByteArray × (List S26)) := if fits k ⟨2, 0, ⟨#[]⟩, l0⟩ then some (2, 0, ⟨#[]⟩, l0) else none
set_option maxHeartbeats 1600000 in
set_option maxRecDepth 100000 in
theorem code_List.calls (k : Nat) (A0 : Option Addr) (c0 : Nat) (l0 : List S26) (r1 r2 : Int) (r3 : ByteArray) (r4 : List S26) (w : World) (hr0 : Kd.C k26 w A0 l0.length l0) (hc0 : l0.length ≤ c0) (h : code_List.f k l0 = some (r1, r2, r3, r4)) :
    Calls Try.prog 15 #[.slice A0 l0.length c0] w fun e w' => ∃ v3_ : Value, e = .returned (.agg #[.int .i64 r1, .int .u64 r2, .string r3, v3_]) ∧ Kd.R k26 26 w' w.heap.size (fun _ => True) v3_ r4 ∧ Below w.heap.size w w' := by
  unfold code_List.f at h
  by_cases hf : fits k ⟨2, 0, ⟨#[]⟩, l0⟩ = true
  · rw [if_pos hf] at h
    simp only [Option.some.injEq, Prod.mk.injEq] at h
    obtain ⟨rfl, rfl, rfl, rfl⟩ := h
    have HC := Aside0.mk (own_calls k ⟨2, 0, ⟨#[]⟩, l0⟩ A0 c0 (w.alloc (.cells #[.int .i64 0, .int .u64 0, .string ⟨#[]⟩, .slice none 0 0] 26)) hf (Kd.C_below hr0 (below_alloc (Below.refl _ _) _)) hc0)
    clear hf hr0
    go_enter Try.func15, Try.ntmps15
    go_wp2_with fail
    refine HC.out.mono ?_
    rintro e w2 ⟨v3, rfl, hR, hb⟩
    have hb4 : w2.heap[w.heap.size]? = _ := (hb.block _ (by simp)).trans (heap_at rfl)
    obtain ⟨A5, c5, rfl⟩ := Kd.R_slice hR
    have hc40 : w2.cell? ⟨w.heap.size, 0, none⟩ = some (.int .i64 0) := (blk_cell hb4 0).trans rfl
    have hc41 : w2.cell? ⟨w.heap.size, 1, none⟩ = some (.int .u64 0) := (blk_cell hb4 1).trans rfl
    have hc42 : w2.cell? ⟨w.heap.size, 2, none⟩ = some (.string ⟨#[]⟩) := (blk_cell hb4 2).trans rfl
    have hc43 : w2.cell? ⟨w.heap.size, 3, none⟩ = some (.slice none 0 0) := (blk_cell hb4 3).trans rfl
    have hf4 := blk_frozen hb4
    have HB4 := Aside0.mk hb4
    have HRX := Aside0.mk hR
    have HBX := Aside0.mk ((below_alloc (Below.refl w.heap.size w) (.cells #[.int .i64 0, .int .u64 0, .string ⟨#[]⟩, .slice none 0 0] 26)).trans (hb.mono (by simp)))
    clear hb4 hR hb HC
    go_wp2
    have hR2 := Kd.R_mono (Kd.R_bound HRX.out) (fun k hk => (⟨by have := hk.2.1; simp at this; omega, trivial⟩ : k ≠ w.heap.size ∧ True))
    refine list_fin HB4.out _ _ _ _ _ rfl rfl _ ⟨_, rfl, ?_, ?_⟩
    · exact Kd.R_lower (Kd.R_mono (Kd.R_far (Kd.R_far (Kd.R_far (Kd.R_far hR2 (fun _ hk => hk.1) _) (fun _ hk => hk.1) _) (fun _ hk => hk.1) _) (fun _ hk => hk.1) _) (fun _ _ => trivial)) (by simp)
    · exact below_set (below_set (below_set (below_set HBX.out (Nat.le_refl _)) (Nat.le_refl _)) (Nat.le_refl _)) (Nat.le_refl _)
  · rw [if_neg hf] at h
    exact absurd h (by simp)
theorem fits_mono : ∀ (k : Nat) (c : S26), fits k c = true → fits (k + 1) c = true
  | 0, c, h => by simp [fits] at h
  | k + 1, c, h => by
    rw [fits] at h ⊢
    simp only [Bool.and_eq_true, List.all_eq_true] at h ⊢
    exact ⟨h.1, fun x hx => fits_mono k x (h.2 x hx)⟩
theorem code_List.mono : ∀ a0 k, LeO (code_List.f k a0) (code_List.f (k + 1) a0) := by
  intro a0 k r h
  unfold code_List.f at h ⊢
  by_cases hf : fits k ⟨2, 0, ⟨#[]⟩, a0⟩ = true
  · rw [if_pos hf] at h
    rw [if_pos (fits_mono _ _ hf)]
    exact h
  · rw [if_neg hf] at h
    exact absurd h (by simp)
end Go.Proofs.Ytjcaieecafggiaa.Pr
