/- What frame's first comes to: the contract of its call, in every world that holds the table of frame. -/
import Derived.Test.YtjcaieecafggiaaDoorFrameB
import Derived.Test.YtjcaieecafggiaaDoorCuts
import Derived.Deep.RegionWith
namespace Go.Proofs.YtjcaieecafggiaaDoor.Pr
open Go.RowKit Go.Proofs.YtjcaieecafggiaaDoorW.PrintWords Go.Proofs.YtjcaieecafggiaaDoorW.PrintLast Go.Proofs.YtjcaieecafggiaaDoorW.PrintMore
set_option linter.unusedVariables false
set_option linter.unusedSimpArgs false
def frame_first.f (l0 : List Int) : Option (List Int × Int × Int) :=
  if (l0.length : Int) < 8 then some ([], 0, 3)
  else (frame_number.f l0).bind fun n =>
    if n > 1048576 then some ([], 0, 2)
    else if n > (l0.length : Int) - 8 then some ([], 0, 3)
    else (frame_sum.f [l0.take 4, (l0.take (8 + n).toNat).drop 8]).bind fun s => (frame_number.f (l0.drop 4)).bind fun m =>
      if s = m then some ((l0.take (8 + n).toNat).drop 8, 8 + n, 0) else some ([], 0, 4)
theorem frame_number.range {l : List Int} {n : Int} (h : frame_number.f l = some n) : 0 ≤ n ∧ n ≤ 4294967295 := by
  unfold frame_number.f at h
  repeat' split at h
  · cases h
    exact ⟨Go.bits_lo_u32 _ _ _, Go.bits_hi_u32 _ _ _⟩
  all_goals cases h
theorem frame_first.cases {l0 : List Int} {r1 : List Int} {r2 r3 : Int} (h : frame_first.f l0 = some (r1, r2, r3)) :
    ((l0.length : Int) < 8 ∧ r1 = [] ∧ r2 = 0 ∧ r3 = 3) ∨ (8 ≤ (l0.length : Int) ∧ ∃ n, frame_number.f l0 = some n ∧ 0 ≤ n ∧
      ((1048576 < n ∧ n ≤ 4294967295 ∧ r1 = [] ∧ r2 = 0 ∧ r3 = 2) ∨ (n ≤ 1048576 ∧ ((l0.length : Int) - 8 < n ∧ r1 = [] ∧ r2 = 0 ∧ r3 = 3 ∨ n ≤ (l0.length : Int) - 8 ∧ ∃ s m, frame_sum.f [l0.take 4, (l0.take (8 + n).toNat).drop 8] = some s ∧ frame_number.f (l0.drop 4) = some m ∧
        (s = m ∧ r1 = (l0.take (8 + n).toNat).drop 8 ∧ r2 = 8 + n ∧ r3 = 0 ∨ s ≠ m ∧ r1 = [] ∧ r2 = 0 ∧ r3 = 4))))) := by
  unfold frame_first.f at h
  by_cases c1 : (l0.length : Int) < 8
  · rw [if_pos c1] at h
    obtain ⟨rfl, rfl, rfl⟩ : [] = r1 ∧ 0 = r2 ∧ 3 = r3 := by simpa using h
    exact .inl ⟨c1, rfl, rfl, rfl⟩
  · rw [if_neg c1] at h
    obtain ⟨n, hn, h2⟩ := Option.bind_eq_some_iff.1 h
    have hr := frame_number.range hn
    refine .inr ⟨by omega, n, hn, hr.1, ?_⟩
    by_cases c2 : n > 1048576
    · rw [if_pos c2] at h2
      obtain ⟨rfl, rfl, rfl⟩ : [] = r1 ∧ 0 = r2 ∧ 2 = r3 := by simpa using h2
      exact .inl ⟨c2, hr.2, rfl, rfl, rfl⟩
    · rw [if_neg c2] at h2
      refine .inr ⟨by omega, ?_⟩
      by_cases c3 : n > (l0.length : Int) - 8
      · rw [if_pos c3] at h2
        obtain ⟨rfl, rfl, rfl⟩ : [] = r1 ∧ 0 = r2 ∧ 3 = r3 := by simpa using h2
        exact .inl ⟨c3, rfl, rfl, rfl⟩
      · rw [if_neg c3] at h2
        obtain ⟨s, hs, h3⟩ := Option.bind_eq_some_iff.1 h2
        obtain ⟨m, hm, h4⟩ := Option.bind_eq_some_iff.1 h3
        refine .inr ⟨by omega, s, m, hs, hm, ?_⟩
        by_cases c4 : s = m
        · rw [if_pos c4] at h4
          obtain ⟨h5, h6, h7⟩ : (l0.take (8 + n).toNat).drop 8 = r1 ∧ 8 + n = r2 ∧ 0 = r3 := by simpa using h4
          exact .inl ⟨c4, h5.symm, h6.symm, h7.symm⟩
        · rw [if_neg c4] at h4
          obtain ⟨h5, h6, h7⟩ : [] = r1 ∧ 0 = r2 ∧ 4 = r3 := by simpa using h4
          exact .inr ⟨c4, h5.symm, h6.symm, h7.symm⟩
set_option maxRecDepth 100000 in
set_option maxHeartbeats 2000000 in
theorem frame_first.calls (A0 : Option Addr) (c0 : Nat) (l0 : List Int) (r1 : List Int) (r2 : Int) (r3 : Int) (w : World) (hr0 : Kd.C (Kd.int .u8) w A0 l0.length l0) (hc0 : l0.length ≤ c0) (hG : QuarterLaid w) (h : frame_first.f l0 = some (r1, r2, r3)) :
    Calls Tryd.prog 20 #[.slice A0 l0.length c0] w fun e w' => ∃ v0_ : Value, e = .returned (.tuple #[v0_, .int .i64 r2, .int .i64 r3]) ∧ Kd.R (Kd.int .u8) 5 w' w.heap.size (fun _ => True) v0_ r1 ∧ Below w.heap.size w w' := by
  have HR0 := Aside0.mk hr0
  have HG := Aside0.mk hG
  have hmx := Kd.C_max hr0
  have H := frame_first.cases h
  clear hr0 hG h
  rcases H with ⟨c1, rfl, rfl, rfl⟩ | ⟨c1, n, hn, hn0, H⟩
  · go_enter Tryd.func20, Tryd.ntmps20
    go_wp2_with fail
    go_ret3
    exact ⟨_, rfl, Kd.R_nil _ _ _ _ _, Below.refl _ _⟩
  have HN := Aside0.mk hn
  clear hn
  rcases H with ⟨c2, c2', rfl, rfl, rfl⟩ | ⟨c2, ⟨c3, rfl, rfl, rfl⟩ | ⟨c3, s, m, hs, hm, H⟩⟩
  · go_enter Tryd.func20, Tryd.ntmps20
    go_wp2_with (go_at_call 24; refine (frame_number.calls _ _ _ _ _ HR0.out hc0 HN.out).mono ?_; rintro e w1 ⟨rfl, nd, rfl⟩)
    go_ret3
    exact ⟨_, rfl, Kd.R_nil _ _ _ _ _, pw_below_drewN (Below.refl _ _) _⟩
  · go_enter Tryd.func20, Tryd.ntmps20
    go_wp2_with (go_at_call 24; refine (frame_number.calls _ _ _ _ _ HR0.out hc0 HN.out).mono ?_; rintro e w1 ⟨rfl, nd, rfl⟩)
    go_ret3
    exact ⟨_, rfl, Kd.R_nil _ _ _ _ _, pw_below_drewN (Below.refl _ _) _⟩
  · obtain ⟨i0, hi, hz0, hz1, hz2⟩ := info_parts infoU8
    obtain ⟨y1, Hy1, hrun1, hcy1, hC1⟩ := cut_h (P := Tryd.prog) (d := Kd.int .u8) 22 5 Tryd.underlying22 hi hz1 A0 c0 l0 hc0 4 (by omega) (by omega)
    obtain ⟨A2, c2_, y2, Hy2, hrun2, hcy2, hC2⟩ := cut_lh (P := Tryd.prog) (d := Kd.int .u8) 22 5 Tryd.underlying22 hi hz1 A0 c0 l0 hc0 8 (8 + n) (by omega) (by omega) (by omega)
    obtain ⟨A3, c3_, y3, Hy3, hrun3, hcy3, hC3⟩ := cut_l (P := Tryd.prog) (d := Kd.int .u8) 22 5 Tryd.underlying22 hi hz1 A0 c0 l0 hc0 4 (by omega) (by omega)
    have e1 : l0.take 4 = y1 := Hy1.out.symm
    have e2 : (l0.take (8 + n).toNat).drop 8 = y2 := Hy2.out.symm
    have e3 : l0.drop 4 = y3 := Hy3.out.symm
    rw [e1, e2] at hs
    rw [e3] at hm
    rw [e2] at H
    have HS := Aside0.mk hs
    have HM := Aside0.mk hm
    have HH := Aside0.mk H
    have HCC := Aside0.mk (And.intro hC1 (And.intro hC2 hC3))
    have HRR := Aside0.mk (And.intro hrun1 (And.intro hrun2 hrun3))
    clear hs hm H hC1 hC2 hC3 e1 e2 e3 hi hz0 hz1 hz2
    have hw : wrap64 (8 + n) = 8 + n := by unfold wrap64; omega
    go_enter Tryd.func20, Tryd.ntmps20
    go_wp2_with (go_at_call 24; refine (frame_number.calls _ _ _ _ _ HR0.out hc0 HN.out).mono ?_; rintro e w1 ⟨rfl, nd, rfl⟩)
    have hr1 := HRR.out.1
    have hr2 := HRR.out.2.1
    have hr3 := HRR.out.2.2
    have hw8 : IntKind.i64.wrap (8 + n) = 8 + n := by rw [IntKind.wrap_i64]; omega
    have HSUM : Aside0 (∀ k, Calls Tryd.prog 19 #[.slice (some ⟨w.heap.size, 0, none⟩) 2 2] ((w.drewN k).alloc (.cells #[.slice A0 y1.length c0, .slice A2 y2.length c2_] 22)) fun e w' => e = .returned (.int .u32 s) ∧ ∃ q, w' = ((w.drewN k).alloc (.cells #[.slice A0 y1.length c0, .slice A2 y2.length c2_] 22)).drewN q) := by
      refine ⟨fun k => ?_⟩
      have hb : Below w.heap.size w ((w.drewN k).alloc (.cells #[.slice A0 y1.length c0, .slice A2 y2.length c2_] 22)) := (pw_below_drewN (Below.refl _ _) k).alloc (Nat.le_refl _) _
      have hb' := Kd.C_below HR0.out hb
      refine (frame_sum.calls (some ⟨w.heap.size, 0, none⟩) 2 [y1, y2] s _ (C_rows (vs := [.slice A0 y1.length c0, .slice A2 y2.length c2_]) (heap_alloc_new (w.drewN k) _) [y1, y2] rfl (by simp) (fun j x v hx hv => ?_)) (by simp) (globBelow HG.out hb) HS.out).mono (fun e w' ⟨h1, h2⟩ => ⟨h1, h2.out⟩)
      match j, hx, hv with
      | 0, hx, hv =>
        obtain rfl : y1 = x := by simpa using hx
        obtain rfl : Value.slice A0 y1.length c0 = v := by simpa using hv
        exact ⟨A0, c0, rfl, hcy1, HCC.out.1 _ hb'⟩
      | 1, hx, hv =>
        obtain rfl : y2 = x := by simpa using hx
        obtain rfl : Value.slice A2 y2.length c2_ = v := by simpa using hv
        exact ⟨A2, c2_, rfl, hcy2, HCC.out.2.1 _ hb'⟩
      | j + 2, hx, hv => simp at hx
    have HNUM : Aside0 (∀ W, Below w.heap.size w W → Calls Tryd.prog 24 #[.slice A3 y3.length c3_] W fun e w' => e = .returned (.int .u32 m) ∧ ∃ q, w' = W.drewN q) :=
      ⟨fun W hb => (frame_number.calls _ _ _ _ _ (HCC.out.2.2 _ (Kd.C_below HR0.out hb)) hcy3 HM.out).mono (fun e w' ⟨h1, h2⟩ => ⟨h1, h2.out⟩)⟩
    go_region_with (first | (go_at_call 19; refine (HSUM.out _).mono ?_; rintro e w' ⟨rfl, q, rfl⟩) | (go_at_call 24; refine (HNUM.out _ (by repeat (with_reducible first | exact Below.refl _ _ | apply pw_below_drewN | apply below_alloc))).mono ?_; rintro e w' ⟨rfl, q, rfl⟩))
    have HLN : Aside0 (y2.length < 140737488355328) := by
      have h1 := Hy2.out
      have h2 : y2.length ≤ 1048576 + 8 := by rw [h1]; simp; omega
      exact ⟨by omega⟩
    rcases HH.out with ⟨e0, rfl, rfl, rfl⟩ | ⟨e0, rfl, rfl, rfl⟩
    · have t1 : (s != m) = false := bne_eq_false_iff_eq.2 e0
      have t2 : (s == m) = true := beq_iff_eq.2 e0
      clear e0 HH
      go_wp2_with (go_at_call 25; refine (slices_Clone.calls _ _ _ _ _ (HCC.out.2.1 _ (Kd.C_below HR0.out (by repeat (with_reducible first | exact Below.refl _ _ | apply pw_below_drewN | apply below_alloc)))) hcy2 (if_pos HLN.out)).mono ?_; rintro e w5 ⟨v5, rfl, ho5, hb5⟩; have HO5 := Aside0.mk ho5; have HB5 := Aside0.mk hb5; clear ho5 hb5)
      go_ret3
      refine ⟨_, rfl, Kd.R_lower HO5.out (by simp [World.drewN]), below_then (by repeat (with_reducible first | exact Below.refl _ _ | apply pw_below_drewN | apply below_alloc)) (by simp [World.drewN]) HB5.out⟩
    · have t1 : (s != m) = true := bne_iff_ne.2 e0
      have t2 : (s == m) = false := beq_eq_false_iff_ne.2 e0
      clear e0 HH
      go_wp2_with fail
      go_ret3
      exact ⟨_, rfl, Kd.R_nil _ _ _ _ _, by repeat (with_reducible first | exact Below.refl _ _ | apply pw_below_drewN | apply below_alloc)⟩
end Go.Proofs.YtjcaieecafggiaaDoor.Pr
