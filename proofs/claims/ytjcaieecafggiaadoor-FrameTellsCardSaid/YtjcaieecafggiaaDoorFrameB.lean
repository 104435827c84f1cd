/- What frame's Frame and first come to: contracts of their calls, in every world that holds the table of frame. -/
import Derived.Test.YtjcaieecafggiaaDoorFrameA
namespace Go.Proofs.YtjcaieecafggiaaDoor.Pr
open Go.RowKit Go.Proofs.YtjcaieecafggiaaDoorW.PrintWords Go.Proofs.YtjcaieecafggiaaDoorW.PrintLast Go.Proofs.YtjcaieecafggiaaDoorW.PrintMore
attribute [local go_sem] max2_int min2_int max_two min_two max_three min_three max_four min_four
set_option linter.unusedVariables false
set_option linter.unusedSimpArgs false
def frame_four.f (a0 : Int) : Option (List Int) := some (([(a0 / 16777216) % 256, (a0 / 65536) % 256, (a0 / 256) % 256, (a0) % 256] : List Int))
set_option maxHeartbeats 8000000 in
set_option maxRecDepth 100000 in
theorem frame_four.calls (a0 : Int) (r : List Int) (w : World) (h : frame_four.f a0 = some r) :
    Calls Tryd.prog 21 #[.int .u32 a0] w fun e w' => ∃ v0_ : Value, e = .returned (v0_) ∧ Kd.R (Kd.int .u8) 5 w' w.heap.size (fun _ => True) v0_ r ∧ Below w.heap.size w w' := by
  have HB := Aside0.mk (Below.refl w.heap.size w)
  have H : (some (([(a0 / 16777216) % 256, (a0 / 65536) % 256, (a0 / 256) % 256, (a0) % 256] : List Int))) = some r := h
  clear h
  obtain ⟨y131, hy131⟩ : ∃ y_ : List Int, y_ = (([(a0 / 16777216) % 256, (a0 / 65536) % 256, (a0 / 256) % 256, (a0) % 256] : List Int)) := ⟨_, rfl⟩
  replace H : (some y131) = some r := by first | (rw [hy131]; with_reducible exact H) | (have H2_ := (Option.bind_some _ _).symm.trans H; rw [hy131]; with_reducible exact H2_) | (have H2_ := (Option.bind_some _ _).symm.trans H; with_reducible exact H2_) | with_reducible exact H | (rw [hy131]; exact H) | exact H
  have Ny131 := Aside0.mk hy131
  clear hy131
  obtain rfl := Option.some.inj H
  go_enter Tryd.func21, Tryd.ntmps21
  go_wp2_with (first | ((with_reducible refine gate_dst (N := 14) rfl ?_); refine Kd.R_lit (Kd.int .u8) _ 5 ?hg (N := 14) ?hd (xs := ([(a0 / 16777216) % 256, (a0 / 65536) % 256, (a0 / 256) % 256, (a0) % 256] : List Int)) (inner := [.int .u8 ((a0 / 16777216) % 256), .int .u8 ((a0 / 65536) % 256), .int .u8 ((a0 / 256) % 256), .int .u8 ((a0) % 256)]) (ok := fun _ => True) (okp := fun _ => True) ?hr ?hp (fun _ hk => hk) trivial (Below.refl _ _) (Nat.le_refl _) (by simp) ?_; (case hd => rfl); (case hg => rfl); (case hr => first | (go_simp; done) | (go_simp; rfl)); (case hp => exact (Reps.one (show Kd.M (Kd.int .u8) _ _ _ ((a0 / 16777216) % 256) [.int .u8 ((a0 / 16777216) % 256)] from rfl) (Reps.one (show Kd.M (Kd.int .u8) _ _ _ ((a0 / 65536) % 256) [.int .u8 ((a0 / 65536) % 256)] from rfl) (Reps.one (show Kd.M (Kd.int .u8) _ _ _ ((a0 / 256) % 256) [.int .u8 ((a0 / 256) % 256)] from rfl) (Reps.one (show Kd.M (Kd.int .u8) _ _ _ ((a0) % 256) [.int .u8 ((a0) % 256)] from rfl) (Reps.none _ _)))))); intro v132 w2 ho3 hb hg_ hnew_; clear hg_ hnew_; (first | rw [← Ny131.out] at ho3 | (simp only [Int.reduceToNat] at ho3; rw [← Ny131.out] at ho3)); have n0_ := Aside0.mk (Kd.R_lower ho3 (below_size (by repeat (first | (with_reducible first | exact HB.out | apply below_alloc | apply pw_below_drewN | apply below_drew1) | exact HB.out)))); have n1_ := Aside0.mk (below_step (by repeat (first | (with_reducible first | exact HB.out | apply below_alloc | apply pw_below_drewN | apply below_drew1) | exact HB.out)) hb); clear HB; have HO133 := n0_; have HB := n1_; clear n0_ n1_; clear hb ho3))
  go_ret
  exact ⟨_, by first | rfl | (simp [errW_none, errW_some] <;> rfl) | (simp [*, errW_none, errW_some] <;> rfl), by (with_reducible repeat (first | apply Kd.R_alloc | apply Kd.R_drewN | apply Kd.R_drew)); exact HO133.out, by repeat (first | (with_reducible first | exact HB.out | apply below_alloc | apply pw_below_drewN | apply below_drew1) | exact HB.out)⟩

def frame_number.f (l0 : List Int) : Option (Int) := if 0 < (l0.length : Int) then (if 1 < (l0.length : Int) then (if 2 < (l0.length : Int) then (if 3 < (l0.length : Int) then (some (Go.bits .or .u32 (Go.bits .or .u32 (Go.bits .or .u32 ((((rd l0 0) % 4294967296) * 16777216) % 4294967296) ((((rd l0 1) % 4294967296) * 65536) % 4294967296)) ((((rd l0 2) % 4294967296) * 256) % 4294967296)) ((rd l0 3) % 4294967296))) else (none)) else (none)) else (none)) else (none)
set_option maxHeartbeats 8000000 in
set_option maxRecDepth 100000 in
theorem frame_number.calls (A0 : Option Addr) (c0 : Nat) (l0 : List Int) (r : Int) (w : World) (hr0 : Kd.C (Kd.int .u8) w A0 l0.length l0) (hc0 : l0.length ≤ c0) (h : frame_number.f l0 = some r) :
    Calls Tryd.prog 24 #[.slice A0 l0.length c0] w fun e w' => e = .returned (.int .u32 r) ∧ Drawn0 w w' := by
  have HR0 := Aside0.mk hr0
  have HC0 := Aside0.mk hc0
  clear hr0 hc0
  have H : (if 0 < (l0.length : Int) then (if 1 < (l0.length : Int) then (if 2 < (l0.length : Int) then (if 3 < (l0.length : Int) then (some (Go.bits .or .u32 (Go.bits .or .u32 (Go.bits .or .u32 ((((rd l0 0) % 4294967296) * 16777216) % 4294967296) ((((rd l0 1) % 4294967296) * 65536) % 4294967296)) ((((rd l0 2) % 4294967296) * 256) % 4294967296)) ((rd l0 3) % 4294967296))) else (none)) else (none)) else (none)) else (none)) = some r := h
  clear h
  by_cases c2 : 0 < (l0.length : Int)
  · rw [if_pos c2] at H
    have c2b0 : decide (0 < (l0.length : Int)) = true := decide_eq_true c2
    have c2b1 : decide (0 < l0.length) = true := decide_eq_true (by omega)
    clear c2
    by_cases c3 : 1 < (l0.length : Int)
    · rw [if_pos c3] at H
      have c3b0 : decide (1 < (l0.length : Int)) = true := decide_eq_true c3
      have c3b1 : decide (1 < l0.length) = true := decide_eq_true (by omega)
      clear c3
      by_cases c4 : 2 < (l0.length : Int)
      · rw [if_pos c4] at H
        have c4b0 : decide (2 < (l0.length : Int)) = true := decide_eq_true c4
        have c4b1 : decide (2 < l0.length) = true := decide_eq_true (by omega)
        clear c4
        by_cases c5 : 3 < (l0.length : Int)
        · rw [if_pos c5] at H
          have c5b0 : decide (3 < (l0.length : Int)) = true := decide_eq_true c5
          have c5b1 : decide (3 < l0.length) = true := decide_eq_true (by omega)
          clear c5
          obtain rfl := Option.some.inj H
          have p113 : 0 ≤ (0 : Int) := (by omega)
          have q113 : 0 < (l0.length : Int) := of_decide_eq_true (by first | (with_reducible assumption) | assumption)
          obtain ⟨ad113, e113, hx113_0⟩ := Kd.at_int HR0.out 0 p113 q113
          cases e113
          have qi113 : (0 < l0.length) = True := eq_true (by omega)
          (try rw [show ((0 : Int)).toNat = 0 from rfl] at hx113_0)
          (try rw [Addr.add_zero'] at hx113_0)
          replace p113 := eq_true p113
          replace q113 := eq_true q113
          have p114 : 0 ≤ (1 : Int) := (by omega)
          have q114 : 1 < (l0.length : Int) := of_decide_eq_true (by first | (with_reducible assumption) | assumption)
          obtain ⟨ad114, e114, hx114_0⟩ := Kd.at_int HR0.out 1 p114 q114
          obtain rfl : ad113 = ad114 := (by injection e114)
          (try simp only [show (1 : Int).toNat = 1 from rfl, Nat.reduceMul, Nat.reduceEqDiff, Go.Addr.add, ↓reduceIte] at hx114_0)
          have qi114 : (1 < l0.length) = True := eq_true (by omega)
          (try rw [show ((1 : Int)).toNat = 1 from rfl] at hx114_0)
          replace p114 := eq_true p114
          replace q114 := eq_true q114
          have p115 : 0 ≤ (2 : Int) := (by omega)
          have q115 : 2 < (l0.length : Int) := of_decide_eq_true (by first | (with_reducible assumption) | assumption)
          obtain ⟨ad115, e115, hx115_0⟩ := Kd.at_int HR0.out 2 p115 q115
          obtain rfl : ad113 = ad115 := (by injection e115)
          (try simp only [show (2 : Int).toNat = 2 from rfl, Nat.reduceMul, Nat.reduceEqDiff, Go.Addr.add, ↓reduceIte] at hx115_0)
          have qi115 : (2 < l0.length) = True := eq_true (by omega)
          (try rw [show ((2 : Int)).toNat = 2 from rfl] at hx115_0)
          replace p115 := eq_true p115
          replace q115 := eq_true q115
          have p116 : 0 ≤ (3 : Int) := (by omega)
          have q116 : 3 < (l0.length : Int) := of_decide_eq_true (by first | (with_reducible assumption) | assumption)
          obtain ⟨ad116, e116, hx116_0⟩ := Kd.at_int HR0.out 3 p116 q116
          obtain rfl : ad113 = ad116 := (by injection e116)
          (try simp only [show (3 : Int).toNat = 3 from rfl, Nat.reduceMul, Nat.reduceEqDiff, Go.Addr.add, ↓reduceIte] at hx116_0)
          have qi116 : (3 < l0.length) = True := eq_true (by omega)
          (try rw [show ((3 : Int)).toNat = 3 from rfl] at hx116_0)
          replace p116 := eq_true p116
          replace q116 := eq_true q116
          go_enter Tryd.func24, Tryd.ntmps24
          go_wp2
          repeat (go_quiet (fail); try go_wp2)
          go_ret
          exact ⟨by first | rfl | (simp; done) | (simp [*]; done), by repeat (first | exact Drawn0.refl _ | apply Drawn0.step)⟩
        · rw [if_neg c5] at H
          exact absurd H (by simp)
      · rw [if_neg c4] at H
        exact absurd H (by simp)
    · rw [if_neg c3] at H
      exact absurd H (by simp)
  · rw [if_neg c2] at H
    exact absurd H (by simp)

def fourL (a : Int) : List Int := [(a / 16777216) % 256, (a / 65536) % 256, (a / 256) % 256, a % 256]
def frame_Frame.f (l0 : List Int) : Option (List Int × Int) :=
  if (l0.length : Int) > 1048576 then some ([], 2)
  else (frame_sum.f [fourL (l0.length : Int), l0]).bind fun s => some (fourL (l0.length : Int) ++ (fourL s ++ l0), 0)
set_option maxRecDepth 100000 in
set_option maxHeartbeats 2000000 in
theorem frame_Frame.calls (A0 : Option Addr) (c0 : Nat) (l0 : List Int) (r1 : List Int) (r2 : Int) (w : World) (hr0 : Kd.C (Kd.int .u8) w A0 l0.length l0) (hc0 : l0.length ≤ c0) (hG : QuarterLaid w) (h : frame_Frame.f l0 = some (r1, r2)) :
    Calls Tryd.prog 16 #[.slice A0 l0.length c0] w fun e w' => ∃ v0_ : Value, e = .returned (.tuple #[v0_, .int .i64 r2]) ∧ Kd.R (Kd.int .u8) 5 w' w.heap.size (fun _ => True) v0_ r1 ∧ Below w.heap.size w w' := by
  unfold frame_Frame.f at h
  by_cases hl : (l0.length : Int) > 1048576
  · rw [if_pos hl] at h
    obtain ⟨rfl, rfl⟩ := Prod.mk.inj (Option.some.inj h)
    clear h
    go_enter Tryd.func16, Tryd.ntmps16
    go_wp2_with fail
    go_ret2
    exact ⟨_, rfl, Kd.R_nil _ _ _ _ _, Below.refl _ _⟩
  · rw [if_neg hl] at h
    have hlen : l0.length ≤ 1048576 := by omega
    obtain ⟨s, hs, h2⟩ := Option.bind_eq_some_iff.1 h
    obtain ⟨rfl, rfl⟩ := Prod.mk.inj (Option.some.inj h2)
    clear h h2 hl
    have HR0 := Aside0.mk hr0
    have HG := Aside0.mk hG
    have HS := Aside0.mk hs
    clear hr0 hG hs
    go_enter Tryd.func16, Tryd.ntmps16
    go_wp2_with fail
    refine (frame_four.calls (l0.length : Int) (fourL (l0.length : Int)) w rfl).mono ?_
    rintro e w1 ⟨v1, rfl, ho1, hb1⟩
    obtain ⟨A1, c1, rfl, hc1, hr1⟩ := Kd.R_reads ho1
    have hG1 := globBelow HG.out hb1
    have hr01 := Kd.C_below HR0.out hb1
    clear ho1
    obtain ⟨n, Hn⟩ : ∃ n, Aside0 (n = fourL (l0.length : Int)) := ⟨_, ⟨rfl⟩⟩
    have hn4 : n.length = 4 := by rw [Hn.out]; rfl
    rw [← Hn.out] at hr1 hc1 ⊢
    rw [← Hn.out] at HS
    -- the world behind the first literal
    have hb2 : Below w1.heap.size w1 (w1.alloc (.cells #[.slice A1 n.length c1, .slice A0 l0.length c0] 22)) := (Below.refl _ _).alloc (Nat.le_refl _) _
    have hcall := frame_sum.calls (some ⟨w1.heap.size, 0, none⟩) 2 [n, l0] s (w1.alloc (.cells #[.slice A1 n.length c1, .slice A0 l0.length c0] 22))
      (C_rows (vs := [.slice A1 n.length c1, .slice A0 l0.length c0]) (heap_alloc_new w1 _) [n, l0] rfl (by simp) (fun j x v hx hv => by
        match j, hx, hv with
        | 0, hx, hv =>
          obtain rfl : n = x := by simpa using hx
          obtain rfl : Value.slice A1 n.length c1 = v := by simpa using hv
          exact ⟨A1, c1, rfl, hc1, Kd.C_below hr1 hb2⟩
        | 1, hx, hv =>
          obtain rfl : l0 = x := by simpa using hx
          obtain rfl : Value.slice A0 l0.length c0 = v := by simpa using hv
          exact ⟨A0, c0, rfl, hc0, Kd.C_below hr01 hb2⟩
        | j + 2, hx, hv => simp at hx)) (by simp) (globBelow hG1 hb2) HS.out
    have HC := Aside0.mk hcall
    have HB1 := Aside0.mk hb1
    have HB2 := Aside0.mk hb2
    have HR1 := Aside0.mk hr1
    have HR01 := Aside0.mk hr01
    have HN4 := Aside0.mk hn4
    clear hcall hb1 hb2 hr1 hr01 hG1 hn4
    go_wp2_with fail
    refine HC.out.mono ?_
    rintro e w2 ⟨rfl, nd, rfl⟩
    go_wp2_with fail
    refine (frame_four.calls s (fourL s) _ rfl).mono ?_
    rintro e w3 ⟨v3, rfl, ho3, hb3⟩
    obtain ⟨A3, c3, rfl, hc3, hr3⟩ := Kd.R_reads ho3
    clear ho3 HC
    obtain ⟨m, Hm⟩ : ∃ m, Aside0 (m = fourL s) := ⟨_, ⟨rfl⟩⟩
    have hm4 : m.length = 4 := by rw [Hm.out]; rfl
    rw [← Hm.out] at hr3 hc3 ⊢
    have hb13 : Below w1.heap.size w1 w3 := below_then (pw_below_drewN HB2.out nd) (by simp [World.drewN]; try omega) hb3
    have hb4 : Below w3.heap.size w3 (w3.alloc (.cells #[.slice A1 n.length c1, .slice A3 m.length c3, .slice A0 l0.length c0] 22)) := (Below.refl _ _).alloc (Nat.le_refl _) _
    have hcall := slices_Concat.calls (some ⟨w3.heap.size, 0, none⟩) 3 [n, m, l0] (n ++ (m ++ l0)) (w3.alloc (.cells #[.slice A1 n.length c1, .slice A3 m.length c3, .slice A0 l0.length c0] 22))
      (C_rows (vs := [.slice A1 n.length c1, .slice A3 m.length c3, .slice A0 l0.length c0]) (heap_alloc_new w3 _) [n, m, l0] rfl (by simp) (fun j x v hx hv => by
        match j, hx, hv with
        | 0, hx, hv =>
          obtain rfl : n = x := by simpa using hx
          obtain rfl : Value.slice A1 n.length c1 = v := by simpa using hv
          exact ⟨A1, c1, rfl, hc1, Kd.C_below (Kd.C_below HR1.out hb13) hb4⟩
        | 1, hx, hv =>
          obtain rfl : m = x := by simpa using hx
          obtain rfl : Value.slice A3 m.length c3 = v := by simpa using hv
          exact ⟨A3, c3, rfl, hc3, Kd.C_below hr3 hb4⟩
        | 2, hx, hv =>
          obtain rfl : l0 = x := by simpa using hx
          obtain rfl : Value.slice A0 l0.length c0 = v := by simpa using hv
          exact ⟨A0, c0, rfl, hc0, Kd.C_below (Kd.C_below HR01.out hb13) hb4⟩
        | j + 3, hx, hv => simp at hx)) (by simp) (by
          have e : [n, m, l0].flatten = n ++ (m ++ l0) := by simp
          have := HN4.out
          unfold slices_Concat.f
          rw [e, if_pos (by simp only [List.length_append]; omega)])
    have HC := Aside0.mk hcall
    have HB3 := Aside0.mk hb13
    have HB4 := Aside0.mk hb4
    clear hcall hb13 hb4 hb3 hm4 hr3
    go_wp2_with fail
    refine HC.out.mono ?_
    rintro e w5 ⟨v5, rfl, ho5, hb5⟩
    have HO5 := Aside0.mk ho5
    have hs1 := HB1.out.size
    have hs3 := HB3.out.size
    have HB5 : Aside0 (Below w.heap.size w w5) := ⟨below_then (below_then (below_then HB1.out HB1.out.size HB3.out) (by omega) HB4.out) (by simp; omega) hb5⟩
    clear ho5 hb5 HC
    go_wp2_with fail
    go_ret2
    exact ⟨_, rfl, by rw [← Hn.out, ← Hm.out]; exact Kd.R_lower HO5.out (by simp only [World.size_alloc]; omega), HB5.out⟩
end Go.Proofs.YtjcaieecafggiaaDoor.Pr
