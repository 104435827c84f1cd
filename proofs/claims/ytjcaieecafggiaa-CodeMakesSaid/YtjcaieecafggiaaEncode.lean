/- code.Encode: a contract of its calls. -/
import Derived.Test.YtjcaieecafggiaaWrList
import Derived.Tactics2
import Derived.Laws.Pointers
namespace Go.Proofs.Ytjcaieecafggiaa.Pr
open Go.RowKit Go.Proofs.YtjcaieecafggiaaW.PrintWords Go.Proofs.YtjcaieecafggiaaW.PrintLast Go.Proofs.YtjcaieecafggiaaW.PrintMore
set_option linter.unusedVariables false
set_option linter.unusedSimpArgs false
theorem heap_at {w : World} {o : Obj} {n : Nat} (h : w.heap.size = n) : (w.alloc o).heap[n]? = some o := by subst h; exact heap_alloc_new w o
theorem heap_under {w : World} {o : Obj} {n : Nat} (h : n < w.heap.size) : (w.alloc o).heap[n]? = w.heap[n]? := (below_alloc (Below.refl _ _) o).block n h
theorem V_clip {α : Type} {d : Kd α} {e base n c : Nat} {W : World} {ok : Nat → Prop} {A : Option Addr} {xs : List α} (h : Kd.V d e W base ok (.slice A n c) xs) : Kd.V d e W base ok (.slice A n n) xs := by
  obtain ⟨hn, _, hf⟩ := Kd.V_at h
  subst hn
  exact Kd.V_mk (Nat.le_refl _) hf
theorem V_string {P : Program} {w : World} {src dst e base e' : Nat} {ok : Nat → Prop} {v : Value} {xs : List Int} (hs : P.underlying src = some (.slice e)) (he : P.underlying e = some (.int .u8)) (hd : P.underlying dst = some .string)
    (h : Kd.V (Kd.int .u8) e' w base ok v xs) : (convert src dst v).run P w = .ok (.string (strOfNums xs)) w := by
  obtain ⟨A, c, rfl⟩ := Kd.V_slice h
  exact Kd.C_string (P := P) (A := A) (c := c) hs he hd (Kd.V_reads' h).2.2
/-- A row's block is none of a block of another type. -/
theorem own_ne {w : World} {B e size n g t : Nat} {v : Value} {xs : List Value} {cells : Array Value} (h : w.ownsRow B e size v n xs) (hb : w.heap[g]? = some (.cells cells t (0, 0))) (hne : e ≠ t) : v.ownBlock ≠ some g := by
  intro hk
  rcases h.2 with ⟨rfl, _⟩ | ⟨g', cap, cur, rfl, _, hh, _⟩
  · simp [Value.ownBlock] at hk
  · have : g' = g := by simpa [Value.ownBlock] using hk
    subst this
    rw [hb] at hh
    injection hh with hh
    injection hh with _ ht
    exact hne ht.symm
theorem own_le {w : World} {B e size n c : Nat} {A : Option Addr} {xs : List Value} (h : w.ownsRow B e size (.slice A n c) n xs) : n ≤ c ∧ c ≤ 9223372036854775807 := by
  rcases h.2 with ⟨hv, h0⟩ | ⟨g, cap, cur, hv, _, _, h1, h2, _⟩
  · injection hv with _ h1 h2; subst h2; omega
  · injection hv with _ _ h3; subst h3; simp only [maxLen] at h2; omega
set_option maxHeartbeats 1600000 in
theorem clip_calls (A : Option Addr) (n c : Nat) (w : World) (h : n ≤ c ∧ c ≤ 9223372036854775807) : Calls Try.prog 27 #[.slice A n c] w fun e w' => e = .returned (.slice A n n) ∧ w = w' := by
  have h1 : ((n : Int) ≤ (c : Int)) := by omega
  have h2 := h.1
  have h3 := h.2
  have h4 : (0 : Int) ≤ (n : Int) := by omega
  clear h
  go_enter Try.func27, Try.ntmps27
  go_wp2
  go_ret
  exact ⟨rfl, rfl⟩
def code_Encode.f (k : Nat) (a0 a1 : Int) (a2 : ByteArray) (l3 : List S26) : Option (List Int × Int) := (wrCell k ⟨a0, a1, a2, l3⟩ 0 []).map fun r => if r.2 = 0 then (r.1, 0) else ([], r.2)
set_option maxHeartbeats 1600000 in
set_option maxRecDepth 100000 in
theorem code_Encode.calls (k : Nat) (a0 a1 : Int) (a2 : ByteArray) (A3 : Option Addr) (c3 : Nat) (l3 : List S26) (r1 : List Int) (r2 : Int) (w : World) (hr3 : Kd.C k26 w A3 l3.length l3) (hc3 : l3.length ≤ c3) (h : code_Encode.f k a0 a1 a2 l3 = some (r1, r2)) :
    Calls Try.prog 12 #[.agg #[.int .i64 a0, .int .u64 a1, .string a2, .slice A3 l3.length c3]] w fun e w' => ∃ v0_ : Value, e = .returned (.tuple #[v0_, .int .i64 r2]) ∧ Kd.V (Kd.int .u8) 5 w' w.heap.size (fun k_ => (w.heap.size ≤ k_)) v0_ r1 ∧ Below w.heap.size w w' := by
  unfold code_Encode.f at h
  obtain ⟨⟨zs, e0⟩, hz, hr⟩ := Option.map_eq_some_iff.1 h
  have HZ := Aside0.mk hz
  have HC := Aside0.mk hr3
  have HR := Aside0.mk hr
  clear h hz hr hr3
  have hmf : ∀ (fn : Fn) (first cap : Array Value) (w : World), (Instr.makeFunc fn first cap).run Try.prog w = .ok (.func fn first cap) w := fun _ _ _ _ => rfl
  go_enter_defers Try.func12, Try.ntmps12
  go_wp2_with fail
  have hW1 : Below w.heap.size w (((w.alloc (.cells #[.int .i64 a0, .int .u64 a1, .string a2, .slice A3 l3.length c3] 26)).alloc (.cells #[.int .i64 0] 27)).alloc (.cells #[.slice none 0 0] 53)) := by
    repeat (first | exact Below.refl _ _ | apply below_alloc)
  obtain ⟨W, hWe⟩ : ∃ W, W = ((w.alloc (.cells #[.int .i64 a0, .int .u64 a1, .string a2, .slice A3 l3.length c3] 26)).alloc (.cells #[.int .i64 0] 27)).alloc (.cells #[.slice none 0 0] 53) := ⟨_, rfl⟩
  have hsz : W.heap.size = w.heap.size + 1 + 1 + 1 := by rw [hWe]; simp
  have hp : W.heap[w.heap.size + 1 + 1]? = some (.cells #[.slice none 0 0] 53 (0, 0)) := by
    rw [hWe]; exact heap_at (by simp)
  have hq : W.heap[w.heap.size + 1]? = some (.cells #[.int .i64 0] 27 (0, 0)) := by
    rw [hWe]; exact (heap_under (by simp)).trans (heap_at (by simp))
  rw [← hWe] at hW1 ⊢
  clear hWe
  have hWr : Wr w.heap.size (w.heap.size + 1 + 1) W (.slice none 0 0) [] := ⟨hp, own_nil _ _ _ _, by omega⟩
  refine (cell_calls w (w.heap.size + 1 + 1) k ⟨a0, a1, a2, l3⟩ A3 c3 0 W _ [] zs e0 0 HC.out hc3 hW1 hWr (by simp) (by omega) rfl HZ.out).mono ?_
  rintro e w2 ⟨rfl, v1, hw1, ho1, hb1, hk1⟩
  have hq2 : w2.heap[w.heap.size + 1]? = some (.cells #[.int .i64 0] 27 (0, 0)) := blk_kept hq hk1 (by simp [Value.ownBlock])
  have hce : w2.cell? ⟨w.heap.size + 1, 0, none⟩ = some (.int .i64 0) := (blk_cell hq2 0).trans rfl
  have hze : w2.frozen? ⟨w.heap.size + 1, 0, none⟩ = false := blk_frozen hq2 0
  have HB2 := Aside0.mk (hW1.trans hb1)
  have hrr := HR.out
  by_cases he : e0 = 0
  · rw [he, endOf_zero]
    rw [if_pos he] at hrr
    simp only [Prod.mk.injEq] at hrr
    obtain ⟨rfl, rfl⟩ := hrr
    obtain ⟨A1, c1, hv1⟩ := own_slice hw1.own
    have hcp : w2.cell? ⟨w.heap.size + 1 + 1, 0, none⟩ = some (.slice A1 zs.length c1) := by rw [← hv1]; exact (blk_cell hw1.blk 0).trans rfl
    subst hv1
    have HO := Aside0.mk hw1.own
    have HQ2 := Aside0.mk hq2
    have HE := Aside0.mk he
    clear he hw1 ho1 hb1 hk1 HR HZ HC hp hq hq2 hWr hW1 hsz
    go_wp2_with (go_at_call 27; refine (clip_calls _ _ _ _ (own_le HO.out)).mono ?_; rintro e w' ⟨rfl, rfl⟩)
    refine leaves_cons (f := 23) (args := #[.pointer (some ⟨w.heap.size + 1, 0, none⟩)]) (by simp) (by simp [go_sem]) ?_
    refine (caught_idle _ _).mono ?_
    rintro e u' w'' ⟨rfl, rfl, rfl⟩
    refine ⟨.tuple #[.slice A1 zs.length zs.length, .int .i64 0], ?_, _, rfl, ?_, ?_⟩
    · simp [results, Try.results12, go_sem, hce]
    · have hR : Kd.R (Kd.int .u8) 5 w2 w.heap.size (fun k => some k = (Value.slice A1 zs.length c1).ownBlock) (.slice A1 zs.length c1) zs := Kd.R_tight rfl (Kd.R_of_own (ok := fun _ => True) HO.out (fun _ _ => trivial))
      have hV := V_clip (Kd.V_mono (ok' := fun k => w.heap.size ≤ k ∧ k ≠ w.heap.size + 1) (Kd.R_V (base' := w.heap.size) hR) (fun k hk => ⟨own_base HO.out k hk.symm, fun e => own_ne HO.out HQ2.out (by decide) (by rw [← hk, e])⟩))
      exact Kd.V_mono (Kd.V_far (p := ⟨w.heap.size + 1, 0, none⟩) hV (fun _ hk => hk.2) _) (fun _ hk => hk.1)
    · exact below_set HB2.out (by omega) 
  · rw [endOf_not he]
    rw [if_neg he] at hrr
    simp only [Prod.mk.injEq] at hrr
    obtain ⟨rfl, rfl⟩ := hrr
    clear he hw1 ho1 hb1 hk1 HR HZ HC hp hq hq2 hWr hW1 hsz
    unfold wrongE
    go_wp2
    unfold wrongV
    refine leaves_cons (f := 23) (args := #[.pointer (some ⟨w.heap.size + 1, 0, none⟩)]) (by simp) (by simp [go_sem]) ?_
    refine (caught_panicking _ _ 0 e0 _ rfl [] _ hce hze).mono ?_
    rintro e u' w'' ⟨rfl, rfl, hb⟩
    have hs : (w2.setCell ⟨w.heap.size + 1, 0, none⟩ (.int .i64 e0)).heap.size = w2.heap.size := by simp [World.setCell]
    rw [← hs] at hb
    have hc3 : w''.cell? ⟨w.heap.size + 1, 0, none⟩ = some (.int .i64 e0) := by
      refine pw_cell_below hb ?_
      simp [go_sem, hce]
    refine ⟨.tuple #[.slice none 0 0, .int .i64 e0], ?_, _, rfl, Kd.V_nil _ _ _ _ _, ?_⟩
    · simp [results, Try.results12, go_sem, hc3]
    · exact (below_set HB2.out (by omega)).trans (hb.mono (by rw [hs]; exact HB2.out.size))
theorem foldW_mono {α : Type} {f g : α → List Int → Option (List Int × Int)} (hf : ∀ x ys r, f x ys = some r → g x ys = some r) : ∀ (l : List α) (ys : List Int) (r : List Int × Int), foldW f l ys = some r → foldW g l ys = some r
  | [], ys, r, h => h
  | x :: l, ys, r, h => by
    simp only [foldW] at h ⊢
    obtain ⟨s, h1, h2⟩ := Option.bind_eq_some_iff.mp h
    rw [hf _ _ _ h1]
    simp only [Option.bind_some]
    split
    · rename_i he
      rw [if_pos he] at h2
      exact foldW_mono hf l _ r h2
    · rename_i he
      rw [if_neg he] at h2
      exact h2
theorem wrCell_mono : ∀ (k : Nat) (c : S26) (deep : Nat) (xs : List Int) (r : List Int × Int), wrCell k c deep xs = some r → wrCell (k + 1) c deep xs = some r
  | 0, c, deep, xs, r, h => by simp [wrCell] at h
  | k + 1, c, deep, xs, r, h => by
    rw [wrCell] at h ⊢
    have hf : ∀ (l : List S26) (ys : List Int) (r : List Int × Int), foldW (fun x ys => wrCell k x (deep + 1) ys) l ys = some r → foldW (fun x ys => wrCell (k + 1) x (deep + 1) ys) l ys = some r := foldW_mono (fun x ys r hx => wrCell_mono k x (deep + 1) ys r hx)
    by_cases h0 : c.f0 = 0
    · rw [if_pos h0] at h ⊢; exact h
    · rw [if_neg h0] at h ⊢
      by_cases h1 : c.f0 = 1
      · rw [if_pos h1] at h ⊢; exact h
      · rw [if_neg h1] at h ⊢
        by_cases h2 : c.f0 = 2
        · rw [if_pos h2] at h ⊢
          by_cases h3 : 64 < deep + 1
          · rw [if_pos h3] at h ⊢; exact h
          · rw [if_neg h3] at h ⊢
            by_cases h4 : 1048576 < c.f3.length
            · rw [if_pos h4] at h ⊢; exact h
            · rw [if_neg h4] at h ⊢
              by_cases h5 : lookC (xs.length + 5) = 0
              · rw [if_pos h5] at h ⊢; exact hf _ _ _ h
              · rw [if_neg h5] at h ⊢; exact h
        · rw [if_neg h2] at h ⊢; exact h
theorem code_Encode.mono : ∀ a0 a1 a2 a3 k, LeO (code_Encode.f k a0 a1 a2 a3) (code_Encode.f (k + 1) a0 a1 a2 a3) := by
  intro a0 a1 a2 a3 k r h
  unfold code_Encode.f at h ⊢
  obtain ⟨z, hz, hr⟩ := Option.map_eq_some_iff.1 h
  rw [wrCell_mono _ _ _ _ _ hz]
  simp [hr]
end Go.Proofs.Ytjcaieecafggiaa.Pr
