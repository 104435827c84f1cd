/- code.Decode: a contract of its calls. -/
import Derived.Test.YtjcaieecafggiaaRdList
namespace Go.Proofs.Ytjcaieecafggiaa.Pr
open Go.RowKit Go.Proofs.YtjcaieecafggiaaW.PrintWords Go.Proofs.YtjcaieecafggiaaW.PrintLast Go.Proofs.YtjcaieecafggiaaW.PrintMore
set_option linter.unusedVariables false
set_option linter.unusedSimpArgs false
def decR (r : S26 × List Int × Int) : Int × Int × ByteArray × (List S26) × Int :=
  if r.2.2 = 0 then if 0 < r.2.1.length then (0, 0, ⟨#[]⟩, [], 4) else (r.1.f0, r.1.f1, r.1.f2, r.1.f3, 0) else (0, 0, ⟨#[]⟩, [], r.2.2)
def code_Decode.f (k : Nat) (l0 : List Int) : Option (Int × Int × ByteArray × (List S26) × Int) :=
  if 1048576 < l0.length then some (0, 0, ⟨#[]⟩, [], 2) else (rdCell k 0 l0).map decR
theorem dec_world {w w2 : World} {q q3 : Nat} {z0 z1 z2 z3 z4 : Value} (hb2 : w2.heap[q]? = some (.cells #[z0, z1, z2, z3] 26 (0, 0))) (hb3 : w2.heap[q3]? = some (.cells #[z4] 27 (0, 0))) (K N S V E : Value) (o : Obj) (hB : Below w.heap.size w w2)
    (h2 : w.heap.size ≤ q := by omega) (h3 : w.heap.size ≤ q3 := by omega) :
    ((((((w2.setCell ⟨q, 0, none⟩ K).setCell ⟨q, 1, none⟩ N).setCell ⟨q, 2, none⟩ S).setCell ⟨q, 3, none⟩ V).setCell ⟨q3, 0, none⟩ E).alloc o).heap[q]? = some (.cells #[K, N, S, V] 26 (0, 0)) ∧
    ((((((w2.setCell ⟨q, 0, none⟩ K).setCell ⟨q, 1, none⟩ N).setCell ⟨q, 2, none⟩ S).setCell ⟨q, 3, none⟩ V).setCell ⟨q3, 0, none⟩ E).alloc o).heap[q3]? = some (.cells #[E] 27 (0, 0)) ∧
    Below w.heap.size w ((((((w2.setCell ⟨q, 0, none⟩ K).setCell ⟨q, 1, none⟩ N).setCell ⟨q, 2, none⟩ S).setCell ⟨q, 3, none⟩ V).setCell ⟨q3, 0, none⟩ E).alloc o) := by
  have hne : q ≠ q3 := blk_ne hb2 hb3 (by decide)
  have k4 := blk_put (cs := #[K, N, S, z3]) (blk_put (cs := #[K, N, z2, z3]) (blk_put (cs := #[K, z1, z2, z3]) (blk_put (cs := #[z0, z1, z2, z3]) hb2 0 K rfl) 1 N rfl) 2 S rfl) 3 V rfl
  have k5 := blk_far k4 (p := ⟨q3, 0, none⟩) hne E
  have j4 := blk_far (blk_far (blk_far (blk_far hb3 (p := ⟨q, 0, none⟩) hne.symm K) (p := ⟨q, 1, none⟩) hne.symm N) (p := ⟨q, 2, none⟩) hne.symm S) (p := ⟨q, 3, none⟩) hne.symm V
  have j5 := blk_put j4 0 E rfl
  exact ⟨(heap_under (blk_lt k5)).trans k5, (heap_under (blk_lt j5)).trans j5, below_alloc (below_set (below_set (below_set (below_set (below_set hB h2) h2) h2) h2) h3) o⟩
theorem decode_results {tmps : Array Value} {q2 q3 : Nat} {W : World} {K N S V E : Value} (h2 : tmps.getD 2 undef = .pointer (some ⟨q2, 0, none⟩)) (h3 : tmps.getD 3 undef = .pointer (some ⟨q3, 0, none⟩))
    (hb2 : W.heap[q2]? = some (.cells #[K, N, S, V] 26 (0, 0))) (hb3 : W.heap[q3]? = some (.cells #[E] 27 (0, 0))) :
    (results Try.f8 tmps).run Try.prog W = .ok (.tuple #[.agg #[K, N, S, V], E]) W := by
  have e0 : W.cell? ⟨q2, 0, none⟩ = some K := (blk_cell hb2 0).trans rfl
  have e1 : W.cell? ⟨q2, 1, none⟩ = some N := (blk_cell hb2 1).trans rfl
  have e2 : W.cell? ⟨q2, 2, none⟩ = some S := (blk_cell hb2 2).trans rfl
  have e3 : W.cell? ⟨q2, 3, none⟩ = some V := (blk_cell hb2 3).trans rfl
  have e4 : W.cell? ⟨q3, 0, none⟩ = some E := (blk_cell hb3 0).trans rfl
  have g2 : tmps[2]?.getD undef = .pointer (some ⟨q2, 0, none⟩) := by simpa using h2
  have g3 : tmps[3]?.getD undef = .pointer (some ⟨q3, 0, none⟩) := by simpa using h3
  simp [results, Try.results8, go_sem, g2, g3, e0, e1, e2, e3, e4]
set_option maxHeartbeats 1600000 in
set_option maxRecDepth 100000 in
theorem decode_long (A0 : Option Addr) (c0 : Nat) (l0 : List Int) (w : World) (hlong : 1048576 < l0.length) (hm : l0.length ≤ 9223372036854775807) :
    Calls Try.prog 8 #[.slice A0 l0.length c0] w fun e w' => e = .returned (.tuple #[.agg #[.int .i64 0, .int .u64 0, .string ⟨#[]⟩, .slice none 0 0], .int .i64 2]) ∧ Below w.heap.size w w' := by
  have b0 : decide (1048576 < (l0.length : Int)) = true := decide_eq_true (by omega)
  have b1 : decide (1048576 < l0.length) = true := decide_eq_true hlong
  clear hlong
  go_enter_defers Try.func8, Try.ntmps8
  go_wp2
  refine ⟨.tuple #[.agg #[.int .i64 0, .int .u64 0, .string ⟨#[]⟩, .slice none 0 0], .int .i64 2], ?_, rfl, by repeat (first | exact Below.refl _ _ | apply below_alloc)⟩
  exact decode_results rfl rfl ((heap_under (by simp)).trans (heap_at rfl)) (heap_at (by simp))
set_option maxHeartbeats 1600000 in
set_option maxRecDepth 100000 in
theorem decode_short (k : Nat) (A0 : Option Addr) (c0 : Nat) (l0 : List Int) (r1 r2 : Int) (r3 : ByteArray) (r4 : List S26) (r5 : Int) (w : World) (hr0 : Kd.C (Kd.int .u8) w A0 l0.length l0) (hc0 : l0.length ≤ c0) (hs : ¬ 1048576 < l0.length) (h : (rdCell k 0 l0).map decR = some (r1, r2, r3, r4, r5)) :
    Calls Try.prog 8 #[.slice A0 l0.length c0] w fun e w' => ∃ v3_ : Value, e = .returned (.tuple #[.agg #[.int .i64 r1, .int .u64 r2, .string r3, v3_], .int .i64 r5]) ∧ Kd.R k26 26 w' w.heap.size (fun _ => True) v3_ r4 ∧ Below w.heap.size w w' := by
  obtain ⟨⟨c, rest, e0⟩, hz, hr⟩ := Option.map_eq_some_iff.1 h
  have HZ := Aside0.mk hz
  have HC := Aside0.mk hr0
  have HR := Aside0.mk hr
  have b0 : decide (1048576 < (l0.length : Int)) = false := decide_eq_false (by omega)
  have b1 : decide (1048576 < l0.length) = false := decide_eq_false hs
  have hmf : ∀ (fn : Fn) (first cap : Array Value) (w : World), (Instr.makeFunc fn first cap).run Try.prog w = .ok (.func fn first cap) w := fun _ _ _ _ => rfl
  clear h hz hr hr0
  go_enter_defers Try.func8, Try.ntmps8
  go_wp2_with fail
  have hW1 : Below w.heap.size w (((w.alloc (.cells #[.int .i64 0, .int .u64 0, .string ⟨#[]⟩, .slice none 0 0] 26)).alloc (.cells #[.int .i64 0] 27)).alloc (.cells #[.slice A0 l0.length c0] 48)) := by
    repeat (first | exact Below.refl _ _ | apply below_alloc)
  obtain ⟨W, hWe⟩ : ∃ W, W = ((w.alloc (.cells #[.int .i64 0, .int .u64 0, .string ⟨#[]⟩, .slice none 0 0] 26)).alloc (.cells #[.int .i64 0] 27)).alloc (.cells #[.slice A0 l0.length c0] 48) := ⟨_, rfl⟩
  have hsz : W.heap.size = w.heap.size + 1 + 1 + 1 := by rw [hWe]; simp
  have hp : W.heap[w.heap.size + 1 + 1]? = some (.cells #[.slice A0 l0.length c0] 48 (0, 0)) := by
    rw [hWe]; exact heap_at (by simp)
  have hq3 : W.heap[w.heap.size + 1]? = some (.cells #[.int .i64 0] 27 (0, 0)) := by
    rw [hWe]; exact (heap_under (by simp)).trans (heap_at (by simp))
  have hq2 : W.heap[w.heap.size]? = some (.cells #[.int .i64 0, .int .u64 0, .string ⟨#[]⟩, .slice none 0 0] 26 (0, 0)) := by
    rw [hWe]; exact (heap_under (by simp; omega)).trans ((heap_under (by simp)).trans (heap_at rfl))
  rw [← hWe] at hW1 ⊢
  clear hWe
  have hRd : Rd w (w.heap.size + 1 + 1) W l0 := ⟨⟨A0, c0, hp, hc0, HC.out⟩, by omega, hW1⟩
  refine (rcell_calls w (w.heap.size + 1 + 1) k 0 0 W l0 c rest e0 hRd (by omega) (by omega) rfl HZ.out).mono ?_
  rintro e w2 hce
  have hrr := HR.out
  unfold decR at hrr
  by_cases he : e0 = 0
  · obtain ⟨v3, rfl, hRv, hE⟩ := cellEnd_zero hce he
    simp only at hrr
    rw [if_pos he] at hrr
    obtain ⟨A5, c5, rfl⟩ := Kd.R_slice hRv
    have hq22 := blk_kept hq2 hE.kept (by omega)
    have hq32 := blk_kept hq3 hE.kept (by omega)
    obtain ⟨A6, c6, hb6, _⟩ := hE.rd.blk
    have hcp : w2.cell? ⟨w.heap.size + 1 + 1, 0, none⟩ = some (.slice A6 rest.length c6) := (blk_cell hb6 0).trans rfl
    have hc20 : w2.cell? ⟨w.heap.size, 0, none⟩ = some (.int .i64 0) := (blk_cell hq22 0).trans rfl
    have hc21 : w2.cell? ⟨w.heap.size, 1, none⟩ = some (.int .u64 0) := (blk_cell hq22 1).trans rfl
    have hc22 : w2.cell? ⟨w.heap.size, 2, none⟩ = some (.string ⟨#[]⟩) := (blk_cell hq22 2).trans rfl
    have hc23 : w2.cell? ⟨w.heap.size, 3, none⟩ = some (.slice none 0 0) := (blk_cell hq22 3).trans rfl
    have hc30 : w2.cell? ⟨w.heap.size + 1, 0, none⟩ = some (.int .i64 0) := (blk_cell hq32 0).trans rfl
    have hf2 := blk_frozen hq22
    have hf3 := blk_frozen hq32
    have hs1 : w.heap.size + 1 + 1 < w2.heap.size := blk_lt hb6
    have hs2 : w.heap.size + 1 < w2.heap.size := by omega
    have hs3 : w.heap.size < w2.heap.size := by omega
    have HB := Aside0.mk (hW1.trans hE.below)
    have HRv := Aside0.mk hRv
    have HQ2 := Aside0.mk hq22
    have HQ3 := Aside0.mk hq32
    have HSW := Aside0.mk hsz
    clear hce hRv hE hq22 hq32 hb6 hq2 hq3 hp hRd hW1 hsz he HZ HC HR
    by_cases hrest : 0 < rest.length
    · rw [if_pos hrest] at hrr
      simp only [Prod.mk.injEq] at hrr
      obtain ⟨rfl, rfl, rfl, rfl, rfl⟩ := hrr
      have hd : decide ((rest.length : Int) > 0) = true := decide_eq_true (by omega)
      have hd2 : decide (0 < rest.length) = true := decide_eq_true (by omega)
      clear hrest
      go_wp2
      refine leaves_cons (f := 23) (args := #[.pointer (some ⟨w.heap.size + 1, 0, none⟩)]) (by simp) (by simp [go_sem]) ?_
      refine (caught_idle _ _).mono ?_
      rintro e u' w'' ⟨rfl, rfl, rfl⟩
      obtain ⟨g2, g3, g4⟩ := dec_world HQ2.out HQ3.out (.int .i64 0) (.int .u64 0) (.string ⟨#[]⟩) (.slice none 0 0) (.int .i64 4) (.cells #[.int .i64 c.f0, .int .u64 c.f1, .string c.f2, .slice A5 c.f3.length c5] 26) HB.out
      exact ⟨_, decode_results rfl rfl g2 g3, _, rfl, Kd.R_nil _ _ _ _ _, g4⟩
    · rw [if_neg hrest] at hrr
      simp only [Prod.mk.injEq] at hrr
      obtain ⟨rfl, rfl, rfl, rfl, rfl⟩ := hrr
      have hd : decide ((rest.length : Int) > 0) = false := decide_eq_false (by omega)
      have hd2 : decide (0 < rest.length) = false := decide_eq_false (by omega)
      clear hrest
      go_wp2
      refine leaves_cons (f := 23) (args := #[.pointer (some ⟨w.heap.size + 1, 0, none⟩)]) (by simp) (by simp [go_sem]) ?_
      refine (caught_idle _ _).mono ?_
      rintro e u' w'' ⟨rfl, rfl, rfl⟩
      obtain ⟨g2, g3, g4⟩ := dec_world HQ2.out HQ3.out (.int .i64 c.f0) (.int .u64 c.f1) (.string c.f2) (.slice A5 c.f3.length c5) (.int .i64 0) (.cells #[.int .i64 c.f0, .int .u64 c.f1, .string c.f2, .slice A5 c.f3.length c5] 26) HB.out
      refine ⟨_, decode_results rfl rfl g2 g3, _, rfl, ?_, g4⟩
      have hR2 := Kd.R_mono (Kd.R_bound HRv.out) (fun k hk => (⟨by have := hk.2.1; have := HSW.out; omega, by have := hk.2.1; have := HSW.out; omega⟩ : k ≠ w.heap.size ∧ k ≠ w.heap.size + 1))
      exact Kd.R_lower (Kd.R_mono (Kd.R_alloc (Kd.R_far (Kd.R_far (Kd.R_far (Kd.R_far (Kd.R_far hR2 (fun _ hk => hk.1) _) (fun _ hk => hk.1) _) (fun _ hk => hk.1) _) (fun _ hk => hk.1) _) (fun _ hk => hk.2) _) _) (fun _ _ => trivial)) (by rw [HSW.out]; omega)
  · obtain ⟨rfl, rest', hE⟩ := cellEnd_not hce he
    simp only at hrr
    rw [if_neg he] at hrr
    simp only [Prod.mk.injEq] at hrr
    obtain ⟨rfl, rfl, rfl, rfl, rfl⟩ := hrr
    have hq22 := blk_kept hq2 hE.kept (by omega)
    have hq32 := blk_kept hq3 hE.kept (by omega)
    have hc30 : w2.cell? ⟨w.heap.size + 1, 0, none⟩ = some (.int .i64 0) := (blk_cell hq32 0).trans rfl
    have hf3 := blk_frozen hq32 0
    have HB := Aside0.mk (hW1.trans hE.below)
    have HQ2 := Aside0.mk hq22
    have HQ3 := Aside0.mk hq32
    clear hce hE hq22 hq32 hq2 hq3 hp hRd hW1 hsz he HZ HC HR
    unfold wrongE
    go_wp2
    unfold wrongV
    refine leaves_cons (f := 23) (args := #[.pointer (some ⟨w.heap.size + 1, 0, none⟩)]) (by simp) (by simp [go_sem]) ?_
    refine (caught_panicking _ _ 0 e0 _ rfl [] _ hc30 hf3).mono ?_
    rintro e u' w'' ⟨rfl, rfl, hb⟩
    have hs : (w2.setCell ⟨w.heap.size + 1, 0, none⟩ (.int .i64 e0)).heap.size = w2.heap.size := by simp [World.setCell]
    have h2' := blk_far HQ2.out (p := ⟨w.heap.size + 1, 0, none⟩) (by simp) (.int .i64 e0)
    have h3' := blk_put HQ3.out 0 (.int .i64 e0) rfl
    have h2'' := (hb.block _ (by have := blk_lt HQ2.out; omega)).trans h2'
    have h3'' := (hb.block _ (by have := blk_lt HQ3.out; omega)).trans h3'
    refine ⟨_, decode_results rfl rfl h2'' h3'', _, rfl, Kd.R_nil _ _ _ _ _, ?_⟩
    exact (below_set HB.out (by omega)).trans (hb.mono (by have := HB.out.size; omega))
theorem code_Decode.calls (k : Nat) (A0 : Option Addr) (c0 : Nat) (l0 : List Int) (r1 r2 : Int) (r3 : ByteArray) (r4 : List S26) (r5 : Int) (w : World) (hr0 : Kd.C (Kd.int .u8) w A0 l0.length l0) (hc0 : l0.length ≤ c0) (h : code_Decode.f k l0 = some (r1, r2, r3, r4, r5)) :
    Calls Try.prog 8 #[.slice A0 l0.length c0] w fun e w' => ∃ v3_ : Value, e = .returned (.tuple #[.agg #[.int .i64 r1, .int .u64 r2, .string r3, v3_], .int .i64 r5]) ∧ Kd.R k26 26 w' w.heap.size (fun _ => True) v3_ r4 ∧ Below w.heap.size w w' := by
  unfold code_Decode.f at h
  by_cases hl : 1048576 < l0.length
  · rw [if_pos hl] at h
    simp only [Option.some.injEq, Prod.mk.injEq] at h
    obtain ⟨rfl, rfl, rfl, rfl, rfl⟩ := h
    exact (decode_long A0 c0 l0 w hl hr0.2.1).mono fun e w' ⟨he, hb⟩ => ⟨_, he, Kd.R_nil _ _ _ _ _, hb⟩
  · rw [if_neg hl] at h
    exact decode_short k A0 c0 l0 r1 r2 r3 r4 r5 w hr0 hc0 hl h
theorem foldR_mono {f g : List Int → Option (S26 × List Int × Int)} (hf : ∀ bs r, f bs = some r → g bs = some r) : ∀ (n : Nat) (acc : List S26) (bs : List Int) (r : List S26 × List Int × Int), foldR f n acc bs = some r → foldR g n acc bs = some r
  | 0, acc, bs, r, h => h
  | n + 1, acc, bs, r, h => by
    simp only [foldR] at h ⊢
    obtain ⟨s, h1, h2⟩ := Option.bind_eq_some_iff.mp h
    rw [hf _ _ h1]
    simp only [Option.bind_some]
    split
    · rename_i he
      rw [if_pos he] at h2
      exact foldR_mono hf n _ _ r h2
    · rename_i he
      rw [if_neg he] at h2
      exact h2
theorem rdCell_mono : ∀ (k deep : Nat) (bs : List Int) (r : S26 × List Int × Int), rdCell k deep bs = some r → rdCell (k + 1) deep bs = some r
  | 0, deep, bs, r, h => by simp [rdCell] at h
  | k + 1, deep, [], r, h => by rw [rdCell] at h ⊢; exact h
  | k + 1, deep, b :: bs, r, h => by
    rw [rdCell] at h ⊢
    have hf : ∀ (n : Nat) (ys : List Int) (r : List S26 × List Int × Int), foldR (fun ys => rdCell k (deep + 1) ys) n [] ys = some r → foldR (fun ys => rdCell (k + 1) (deep + 1) ys) n [] ys = some r := fun n ys r => foldR_mono (fun ys r hx => rdCell_mono k (deep + 1) ys r hx) n [] ys r
    by_cases h0 : wrap64 b = 0
    · rw [if_pos h0] at h ⊢; exact h
    · rw [if_neg h0] at h ⊢
      by_cases h1 : wrap64 b = 1
      · rw [if_pos h1] at h ⊢; exact h
      · rw [if_neg h1] at h ⊢
        by_cases h2 : wrap64 b = 2
        · rw [if_pos h2] at h ⊢
          by_cases h3 : 64 < deep + 1
          · rw [if_pos h3] at h ⊢; exact h
          · rw [if_neg h3] at h ⊢
            by_cases h4 : bs.length < 4
            · rw [if_pos h4] at h ⊢; exact h
            · rw [if_neg h4] at h ⊢
              by_cases h5 : ((bs.drop 4).length : Int) < wrap64 (numR (bs.take 4) 0)
              · rw [if_pos h5] at h ⊢; exact h
              · rw [if_neg h5] at h ⊢
                obtain ⟨s, h6, h7⟩ := Option.map_eq_some_iff.1 h
                rw [hf _ _ _ h6]
                simp [h7]
        · rw [if_neg h2] at h ⊢; exact h
theorem code_Decode.mono : ∀ a0 k, LeO (code_Decode.f k a0) (code_Decode.f (k + 1) a0) := by
  intro a0 k r h
  unfold code_Decode.f at h ⊢
  by_cases hl : 1048576 < a0.length
  · rw [if_pos hl] at h ⊢; exact h
  · rw [if_neg hl] at h ⊢
    obtain ⟨s, h6, h7⟩ := Option.map_eq_some_iff.1 h
    rw [rdCell_mono _ _ _ _ h6]
    simp [h7]
end Go.Proofs.Ytjcaieecafggiaa.Pr
