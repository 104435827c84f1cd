/- The writer of package code: put. -/
import Derived.Test.YtjcaieecafggiaaWr
import Derived.Outline
import Derived.IntWalk
import Derived.Deep.RegionLaw
namespace Go.Proofs.Ytjcaieecafggiaa.Pr
open Go.RowKit Go.Proofs.YtjcaieecafggiaaW.PrintWords Go.Proofs.YtjcaieecafggiaaW.PrintLast Go.Proofs.YtjcaieecafggiaaW.PrintMore
set_option linter.unusedVariables false
set_option linter.unusedSimpArgs false
theorem lookE_or (n : Nat) : lookE n = .returned (.tuple #[]) ∨ lookE n = wrongE 2 := by
  unfold lookE
  split
  · exact .inr rfl
  · exact .inl rfl
/-- The bytes of n, m of them, the greatest first. -/
def beB (n : Int) : Nat → List Int
  | 0 => []
  | m + 1 => n / 2 ^ (8 * m) % 256 :: beB n m
theorem beB_length (n : Int) (m : Nat) : (beB n m).length = m := by
  induction m with
  | zero => rfl
  | succ m ih => simp [beB, ih]
theorem blk_drewN_ {W : World} {g : Nat} {o : Obj} (h : W.heap[g]? = some o) (m : Nat) : (W.drewN m).heap[g]? = some o := h
/-- Behind an append to the writer's row, and its store: W is the world ahead of the append, in which all is as in w but for what is new. -/
theorem Wr.pushed {B p : Nat} {w W w1 : World} {v v1 : Value} {xs ys : List Int} {n : Nat} (h : Wr B p w v xs) (hW : Below w.heap.size w W)
    (hown : w1.ownsRow B 5 1 v1 n (nums .u8 (xs ++ ys))) (hg : W.grownBy w1 v.ownBlock) (hat : v1.ownBlock = v.ownBlock ∨ v1.ownBlock = some W.heap.size) :
    Wr B p (w1.setCell ⟨p, 0, none⟩ v1) v1 (xs ++ ys) ∧ (v1.ownBlock = v.ownBlock ∨ ∃ b, v1.ownBlock = some b ∧ w.heap.size ≤ b) ∧ Below B w (w1.setCell ⟨p, 0, none⟩ v1) ∧ Kept w (w1.setCell ⟨p, 0, none⟩ v1) (fun k => k = p ∨ some k = v.ownBlock) := by
  have hp := h.lt
  have hpW : W.heap[p]? = some (.cells #[v] 53 (0, 0)) := (hW.block p hp).trans h.blk
  have hp1 : w1.heap[p]? = some (.cells #[v] 53 (0, 0)) := (hg.block p (by have := hW.size; omega) (fun e => h.ne e.symm)).trans hpW
  have hn : n = (xs ++ ys).length := by have := hown.1; simp only [nums_length, Nat.mul_one] at this; exact this.symm
  subst hn
  have hne1 : v1.ownBlock ≠ some p := by
    rcases hat with e | e
    · rw [e]; exact h.ne
    · rw [e]; intro hh; injection hh with hh; have := hW.size; omega
  have hK1 : Kept w w1 (fun k => k = p ∨ some k = v.ownBlock) := (Kept.of_below hW _).of_grown hg (fun k hk => .inl (.inr hk.symm))
  have hB1 : Below B w w1 := (hW.mono (Nat.le_trans h.base (Nat.le_of_lt hp))).grown hg (Nat.le_trans h.base (by have := hW.size; omega)) (own_base h.own)
  refine ⟨⟨?_, ?_, h.base⟩, ?_, ?_, ?_⟩
  · unfold World.setCell
    simp only [Array.getElem?_modify, if_pos, hp1]
    rfl
  · refine hown.kept (row := some p) ⟨rfl, rfl, rfl, by simp [World.setCell], fun k _ hk => Below.heap_setCell w1 _ v1 k (fun e => hk (by rw [e]))⟩ (.inr hne1)
  · rcases hat with e | e
    · exact .inl e
    · exact .inr ⟨_, e, hW.size⟩
  · exact hB1.setCell h.base _
  · exact hK1.setCell (.inl (.inl rfl)) _
theorem Wr.ahead {B p : Nat} {w W w1 : World} {v : Value} {xs : List Int} (h : Wr B p w v xs) (hW : Below w.heap.size w W) (hg : W.grownBy w1 v.ownBlock) : w1.cell? ⟨p, 0, none⟩ = some v ∧ w1.frozen? ⟨p, 0, none⟩ = false := by
  have hp := h.lt
  have hp1 : w1.heap[p]? = some (.cells #[v] 53 (0, 0)) := (hg.block p (by have := hW.size; omega) (fun e => h.ne e.symm)).trans ((hW.block p hp).trans h.blk)
  exact ⟨(blk_cell hp1 0).trans rfl, blk_frozen hp1 0⟩
theorem wr_chain {B p : Nat} {w w1 w2 : World} {v v1 v2 : Value} (h1 : (v1.ownBlock = v.ownBlock ∨ ∃ b, v1.ownBlock = some b ∧ w.heap.size ≤ b) ∧ Below B w w1 ∧ Kept w w1 (fun k => k = p ∨ some k = v.ownBlock))
    (h2 : (v2.ownBlock = v1.ownBlock ∨ ∃ b, v2.ownBlock = some b ∧ w1.heap.size ≤ b) ∧ Below B w1 w2 ∧ Kept w1 w2 (fun k => k = p ∨ some k = v1.ownBlock)) :
    (v2.ownBlock = v.ownBlock ∨ ∃ b, v2.ownBlock = some b ∧ w.heap.size ≤ b) ∧ Below B w w2 ∧ Kept w w2 (fun k => k = p ∨ some k = v.ownBlock) := by
  obtain ⟨ho, hb, hk⟩ := h1
  obtain ⟨h2, h3, h4⟩ := h2
  refine ⟨?_, hb.trans h3, hk.then_ h4 ?_⟩
  · rcases h2 with h2 | ⟨b, h2, h2'⟩
    · rw [h2]; exact ho
    · exact .inr ⟨b, h2, Nat.le_trans hk.1 h2'⟩
  · intro k hk'
    rcases hk' with rfl | hk'
    · exact .inl (.inl rfl)
    · rcases ho with ho | ⟨b, ho, hb'⟩
      · exact .inl (.inr (hk'.trans ho))
      · rw [ho] at hk'
        injection hk' with hk'
        exact .inr (hk' ▸ hb')
set_option maxHeartbeats 1600000 in
set_option maxRecDepth 100000 in
theorem put_calls {B p : Nat} {w : World} {v : Value} {xs : List Int} (h : Wr B p w v xs) (hl : xs.length ≤ 1048576) (k n : Int) (m : Nat) (hm : m ≤ 8) :
    Calls Try.prog 36 #[.pointer (some ⟨p, 0, none⟩), .int .i64 k, .int .u64 n, .int .i64 m] w fun e w' => e = lookE (xs.length + (1 + m)) ∧ WrEnd B p w v w' (xs ++ (k % 256 :: beB n m)) := by
  obtain ⟨A, c, hv⟩ := own_slice h.own
  obtain ⟨i0, hi, hz0, hz1, hz2⟩ := info_parts info5
  have hc : w.cell? ⟨p, 0, none⟩ = some (.slice A xs.length c) := by rw [← hv]; exact (blk_cell h.blk 0).trans rfl
  subst hv
  have H := Aside0.mk h
  have HI := Aside0.mk hi
  have hp := h.lt
  clear h hi
  go_enter Try.func36, Try.ntmps36
  go_wp2_with (at_builtin; refine wpList_append_lies _ rfl (.tmp 13) (.tmp 16) 22 rfl B 5 i0 (.int .u8 0) 1 1 Try.underlying22 HI.out hz0 hz1 hz2 rfl (by decide) (.slice A xs.length c) xs.length (nums .u8 xs) rfl (H.out.own.alloc _) ⟨w.heap.size, 0, none⟩ 1 1 [.int .u8 (k % 256)] rfl rfl (World.news_of_block (heap_alloc_new w _)) ?c2 Nat.zero_lt_one (by simp only [maxLen]; omega) (by omega) (by have := H.out.base; simp only [World.alloc, Array.size_push]; omega) _ rfl ?next)
  case c2 => intro u hu; simp at hu; subst hu; rfl
  case next =>
  intro g cap w1 hown hgrow hat hlt
  have hW : Below w.heap.size w (w.alloc (.cells #[.int .u8 (k % 256)] 5)) := (Below.refl _ _).alloc (Nat.le_refl _) _
  obtain ⟨hc1, hz1'⟩ := H.out.ahead hW hgrow
  have hpush := H.out.pushed (ys := [k % 256]) hW (by simpa [nums] using hown) hgrow (by rcases hat with e | e; exact .inl e.symm; exact .inr (by rw [e]; simp [Value.ownBlock]))
  have HP := Aside0.mk hpush
  clear hpush hown hgrow hat hW hlt hc
  go_wp2
  clear hc1 hz1'
  obtain ⟨wo, hwo⟩ : ∃ wo, wo = w1.setCell ⟨p, 0, none⟩ (.slice (some ⟨g, 0, none⟩) (xs.length + 1) cap) := ⟨_, rfl⟩
  rw [← hwo] at HP ⊢
  clear hwo
  have HS : Aside0 (∃ v1 ys, (Wr B p wo v1 (xs ++ (k % 256 :: ys)) ∧ (v1.ownBlock = (Value.slice A xs.length c).ownBlock ∨ ∃ b, v1.ownBlock = some b ∧ w.heap.size ≤ b) ∧ Below B w wo ∧ Kept w wo (fun k => k = p ∨ some k = (Value.slice A xs.length c).ownBlock)) ∧ ys ++ beB n m = beB n m) := ⟨_, [], HP.out, rfl⟩
  clear HP
  go_loopg [8] m (fun j s8 wr => ∃ i : Int, s8 = .int .i64 i ∧ Aside0 (i + 1 = (j : Int) ∧ j ≤ 8) ∧ Aside0 (∃ v1 ys, (Wr B p wr v1 (xs ++ (k % 256 :: ys)) ∧ (v1.ownBlock = (Value.slice A xs.length c).ownBlock ∨ ∃ b, v1.ownBlock = some b ∧ w.heap.size ≤ b) ∧ Below B w wr ∧ Kept w wr (fun k => k = p ∨ some k = (Value.slice A xs.length c).ownBlock)) ∧ ys ++ beB n j = beB n m))
  case atStart => exact ⟨_, rfl, ⟨by omega, hm⟩, HS⟩
  case round =>
    clear HS
    obtain ⟨i, rfl, HI', HA⟩ := hrel
    cases gk with
    | zero =>
      obtain ⟨v1, ys, ⟨hw1, ho1, hb1, hk1⟩, hys⟩ := HA.out
      have hi0 : decide (i ≥ 0) = false := decide_eq_false (by have := HI'.out.1; omega)
      have hyl : ys.length = m := by have := congrArg List.length hys; simp only [List.length_append, beB_length] at this; omega
      obtain rfl : ys = beB n m := by simpa [beB] using hys
      have HL := Aside0.mk (looks_calls hw1)
      have HE : Aside0 (WrEnd B p w (Value.slice A xs.length c) wr (xs ++ (k % 256 :: beB n m))) := ⟨⟨v1, hw1, ho1, hb1, hk1⟩⟩
      have HN : Aside0 (lookE (xs ++ (k % 256 :: beB n m)).length = lookE (xs.length + (1 + m))) := ⟨by simp only [List.length_append, List.length_cons, beB_length]; congr 1; omega⟩
      clear hw1 ho1 hb1 hk1 hys HA H HI' hyl
      go_wp2_with fail
      refine HL.out.mono ?_
      rintro e w2 ⟨rfl, rfl⟩
      rw [HN.out]
      clear HL HN
      rcases lookE_or (xs.length + (1 + m)) with hE | hE
      · have HQ := Aside0.mk hE
        rw [hE]
        clear hE
        go_wp2
        go_end0
        exact ⟨HQ.out.symm, HE.out⟩
      · have HQ := Aside0.mk hE
        rw [hE]
        clear hE
        unfold wrongE
        go_wp2
        unfold bodyPost
        exact ⟨rfl, HQ.out.symm, HE.out⟩
    | succ j => 
      obtain ⟨v1, ys, ⟨hw1, ho1, hb1, hk1⟩, hys⟩ := HA.out
      obtain rfl : i = (j : Int) := by have := HI'.out.1; omega
      have hj8 : j < 8 := HI'.out.2
      have hyl : ys.length ≤ 8 := by have := congrArg List.length hys; simp only [List.length_append, beB_length] at this; omega
      have hi0 : decide ((j : Int) ≥ 0) = true := decide_eq_true (by omega)
      obtain ⟨A1, c1, hv1⟩ := own_slice hw1.own
      obtain ⟨zs, hzs⟩ : ∃ zs, zs = xs ++ (k % 256 :: ys) := ⟨_, rfl⟩
      rw [← hzs] at hw1 hv1
      have hzl : zs.length ≤ 1048600 := by rw [hzs]; simp only [List.length_append, List.length_cons]; omega
      have HZ := Aside0.mk hzs
      have HY := Aside0.mk hys
      have hc1 : wr.cell? ⟨p, 0, none⟩ = some (.slice A1 zs.length c1) := by rw [← hv1]; exact (blk_cell hw1.blk 0).trans rfl
      have hzf1 : wr.frozen? ⟨p, 0, none⟩ = false := blk_frozen hw1.blk 0
      subst hv1
      have H1 := Aside0.mk hw1
      have H2 := Aside0.mk (And.intro ho1 (And.intro hb1 hk1))
      clear hw1 ho1 hb1 hk1 hys hzs HA H
      go_wp2_with fail

      have hw8 : IntKind.i64.wrap (8 * (j : Int)) = 8 * (j : Int) := IntWalk.i64_in _ (by omega)
      have hs0 : 0 ≤ 8 * (j : Int) := by omega
      have hpr : p < wr.heap.size := H1.out.lt
      have hs64 : 8 * (j : Int) ≤ 64 := by omega
      go_region_law ((refine step_append_lies _ (by rfl) (.tmp 30) (.tmp 36) 22 (by rfl) B 5 i0 (.int .u8 0) 1 1 Try.underlying22 HI.out hz0 hz1 hz2 rfl (by decide) (.slice A1 zs.length c1) zs.length (nums .u8 zs) (by simp [Act.eval, Act.put]) (H1.out.own.alloc _) ⟨wr.heap.size, 0, none⟩ 1 1 [.int .u8 (IntKind.u8.wrap (n / 2 ^ (8 * (j : Int)).toNat))] (by simp [Act.eval, Act.put]) rfl (World.news_of_block (heap_alloc_new _ _)) (fun u hu => by simp at hu; subst hu; rfl) Nat.zero_lt_one (by simp only [maxLen]; omega) (by omega) (by have := H1.out.base; have := H1.out.lt; simp; omega) _ rfl ?_; intro g2 cap2 w2 hown2 hgrow2 hat2 hlt2; have hW2 : Below wr.heap.size wr (wr.drew.alloc (.cells #[.int .u8 (IntKind.u8.wrap (n / 2 ^ (8 * (j : Int)).toNat))] 5)) := (below_drew (Below.refl _ _)).alloc (Nat.le_refl _) _; have hcz := H1.out.ahead hW2 hgrow2; have hc2 := hcz.1; have hz2' := hcz.2; have HP2 := Aside0.mk (H1.out.pushed (ys := [IntKind.u8.wrap (n / 2 ^ (8 * (j : Int)).toNat)]) hW2 (by simpa [nums] using hown2) hgrow2 (by rcases hat2 with e | e; exact .inl e.symm; exact .inr (by rw [e]; simp [Value.ownBlock]))); clear hcz hW2 hown2 hgrow2 hat2 hlt2))
      all_goals
        go_wp2
        go_roundg j
        case measure => omega
        case rel =>
          obtain ⟨hq1, hq2⟩ := HP2.out
          have hq3 := wr_chain H2.out hq2
          have hq4 : zs ++ [IntKind.u8.wrap (n / 2 ^ (8 * (j : Int)).toNat)] = xs ++ (k % 256 :: (ys ++ [n / 2 ^ (8 * j) % 256])) := by
            rw [HZ.out, IntKind.wrap_u8, show (8 * (j : Int)).toNat = 8 * j by omega]; simp
          rw [hq4] at hq1
          refine ⟨_, rfl, ⟨by omega, by omega⟩, ⟨_, ys ++ [n / 2 ^ (8 * j) % 256], ⟨hq1, hq3⟩, ?_⟩⟩
          rw [← HY.out]
          simp [beB]
end Go.Proofs.Ytjcaieecafggiaa.Pr
