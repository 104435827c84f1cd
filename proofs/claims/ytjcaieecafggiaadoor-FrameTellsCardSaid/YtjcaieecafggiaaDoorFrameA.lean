/- What the functions of package frame, and slices.Clone, Grow and Concat of bytes, come to: contracts of their calls, in every world that holds the table of frame. -/
import Derived.Test.YtjcaieecafggiaaDoorProg
import Derived.Below
import Derived.Deep.Draws
import Derived.Deep.AppendLies
import Derived.Maps.AppendAt
import Derived.OwnWalk
import Derived.Laws.BytesArg
import Derived.Laws.MakeOwn
import Derived.Laws.OwnMore
import Derived.Deep.OwnRows
import Derived.Tactics
import Derived.Lib.ConvBytes
import Derived.Laws.Slices
import Derived.WalkKit
import Derived.KernelRfl
import Derived.RowKit3
import Derived.Deep.LoopGhost
import Derived.Deep.QuietTactic
import Derived.BigQuiet
import Derived.WideLaws
import Derived.Deep.DeepCutAuto
import Derived.Deep.CutBlock
import Derived.Deep.RegionHeld3
import Derived.Laws.Rows
import Derived.Lib.AppendStr
import Derived.ArgAppend
import Derived.Laws.IdiomCopy
import Derived.OrdersHeld
import Derived.Laws.BitsLemmas
import Derived.RowKit
import Derived.Test.YtjcaieecafggiaaDoorWWords
import Derived.Test.YtjcaieecafggiaaDoorWLast
import Derived.Test.YtjcaieecafggiaaDoorWTab
import Derived.Test.YtjcaieecafggiaaDoorWFour
import Derived.Test.YtjcaieecafggiaaDoorWQPut
import Derived.Test.YtjcaieecafggiaaDoorWApart
import Derived.Test.YtjcaieecafggiaaDoorWArr
import Derived.Test.YtjcaieecafggiaaDoorWZeros
import Derived.Test.YtjcaieecafggiaaDoorWFoot
import Derived.Test.YtjcaieecafggiaaDoorWKept
import Derived.Test.YtjcaieecafggiaaDoorWShare
import Derived.Test.YtjcaieecafggiaaDoorWN
import Derived.Test.YtjcaieecafggiaaDoorWFootNe
import Derived.Test.YtjcaieecafggiaaDoorWAt
import Derived.Test.YtjcaieecafggiaaDoorWEqStruct
import Derived.Test.YtjcaieecafggiaaDoorWRepsOne
import Derived.Test.YtjcaieecafggiaaDoorWInv
import Derived.Test.YtjcaieecafggiaaDoorWInvWords
import Derived.Test.YtjcaieecafggiaaDoorWGuard
import Derived.Test.YtjcaieecafggiaaDoorWNEv
import Derived.Test.YtjcaieecafggiaaDoorWMore
import Derived.Lib.SliceRun
namespace Go.Proofs.YtjcaieecafggiaaDoor.Pr
open Go.RowKit Go.Proofs.YtjcaieecafggiaaDoorW.PrintWords Go.Proofs.YtjcaieecafggiaaDoorW.PrintLast Go.Proofs.YtjcaieecafggiaaDoorW.PrintMore
set_option linter.unusedVariables false
set_option linter.unusedSimpArgs false
theorem infoU8 : (Tryd.prog.info? 5).map (fun i => (i.zero, i.size, i.bytes)) = some (some (.int .u8 0), 1, 1) := by kernel_rfl
def xrd (xs : List (List Int)) (i : Int) : (List Int) := xs.getD i.toNat ([] : List Int)
theorem xat {w : World} {A : Option Addr} {n : Nat} {xs : List (List Int)} (h : Kd.C (Kd.slice 5 (Kd.int .u8)) w A n xs) (i : Int) (h0 : 0 ≤ i) (h1 : i < n) : ∃ ad A0 c0, A = some ad ∧ w.cell? (ad.add i.toNat) = some (.slice A0 (xrd xs i).length c0) ∧ (xrd xs i).length ≤ c0 ∧ (Kd.int .u8).C w A0 (xrd xs i).length (xrd xs i) := by
  obtain ⟨ad, c, e, _, hK, hc0⟩ := Kd.C_get h ([] : List Int) i h0 h1
  have hc : ∀ j u, c[j]? = some u → w.cell? (ad.add (i.toNat * 1 + j)) = some u := hc0
  obtain ⟨A0, c0, rfl, l0, g0⟩ := hK
  exact ⟨ad, A0, c0, e, by have hq := hc 0 _ rfl; rwa [Nat.mul_one, Nat.add_zero] at hq, l0, g0⟩
def quarterVals : List Int := [0, 498536548, 997073096, 651767980, 1994146192, 1802195444, 1303535960, 1342533948, 3988292384, 4027552580, 3604390888, 3412177804, 2607071920, 2262029012, 2685067896, 3183342108]
def QuarterLaid (w : World) : Prop := ∀ i, i < 16 → w.cell? ⟨0, i, none⟩ = some (.int .u32 (rd quarterVals i))
def crcNib (c : Int) : Int := Go.bits .xor .u32 (c / 16) (rd quarterVals (Go.bits .and .u32 c 15))
def crcByte (c x : Int) : Int := crcNib (crcNib (Go.bits .xor .u32 c (x % 4294967296)))
def crcBytes (c : Int) (l : List Int) : Int := l.foldl crcByte c
def crcParts (c : Int) (l : List (List Int)) : Int := l.foldl crcBytes c
def frame_sum.f (l0 : List (List Int)) : Option Int := some (Go.bits .xor .u32 4294967295 (crcParts 4294967295 l0))
theorem and15 (c : Int) : 0 ≤ Go.bits .and .u32 c 15 ∧ Go.bits .and .u32 c 15 < 16 := by
  have h : Go.bits .and .u32 c 15 = (((BitVec.ofInt 32 c).toNat &&& 15 : Nat) : Int) := by
    have := Nat.and_le_right (n := (BitVec.ofInt 32 c).toNat) (m := 15)
    unfold Go.bits
    rw [show IntKind.u32.bits = 32 from rfl]
    simp only [BitVec.toNat_and]
    rw [show (BitVec.ofInt 32 15).toNat = 15 from rfl, IntKind.wrap_u32]
    omega
  have := Nat.and_le_right (n := (BitVec.ofInt 32 c).toNat) (m := 15)
  rw [h]; omega
theorem take_snoc_L {α : Type} (l : List α) (k : Nat) (d : α) (h : k < l.length) : l.take (k + 1) = l.take k ++ [l.getD k d] := by
  rw [List.take_succ_eq_append_getElem h]; simp [List.getD_eq_getElem?_getD, List.getElem?_eq_getElem h]
theorem crcBytes_snoc (c : Int) (l : List Int) (x : Int) : crcBytes c (l ++ [x]) = crcByte (crcBytes c l) x := by simp [crcBytes]
theorem crcParts_snoc (c : Int) (l : List (List Int)) (x : List Int) : crcParts c (l ++ [x]) = crcBytes (crcParts c l) x := by simp [crcParts]
set_option maxRecDepth 100000 in
set_option maxHeartbeats 1000000 in
theorem frame_sum.calls (A0 : Option Addr) (c0 : Nat) (l0 : List (List Int)) (r : Int) (w : World) (hr0 : Kd.C (Kd.slice 5 (Kd.int .u8)) w A0 l0.length l0) (hc0 : l0.length ≤ c0) (hG : QuarterLaid w) (h : frame_sum.f l0 = some r) :
    Calls Tryd.prog 19 #[.slice A0 l0.length c0] w fun e w' => e = .returned (.int .u32 r) ∧ Drawn0 w w' := by
  obtain rfl := Option.some.inj h
  clear h
  have HR0 := Aside0.mk hr0
  have HG := Aside0.mk hG
  have HL0 := Kd.C_max hr0
  clear hr0 hG
  go_enter Tryd.func19, Tryd.ntmps19
  go_wp2
  go_loop [3, 10] (fun c i => ∃ (cv : Int) (k : Nat), Aside0 (cv = crcParts 4294967295 (l0.take k)) ∧ k ≤ l0.length ∧ i = .int .i64 k ∧ c = .int .u32 cv) (fun _ i => l0.length - (intOf i).toNat)
  case atStart => exact ⟨_, 0, ⟨rfl⟩, Nat.zero_le _, rfl, rfl⟩
  case round =>
    obtain ⟨cv, k, HE, hk, rfl, rfl⟩ := hrel
    by_cases hlt : k < l0.length
    · obtain ⟨ad, A1, c1, rfl, hx, hc1, hr1⟩ := xat HR0.out (k : Int) (by omega) (by omega)
      rw [Int.toNat_natCast] at hx
      obtain ⟨x, Hx⟩ : ∃ x, Aside0 (x = xrd l0 (k : Int)) := ⟨_, ⟨rfl⟩⟩
      rw [← Hx.out] at hx hc1 hr1
      have HR1 := Aside0.mk hr1
      have HL1 := Kd.C_max hr1
      clear hr1
      go_wp2
      go_loop [3, 16] (fun c i => ∃ (cu : Int) (j : Nat), Aside0 (cu = crcBytes cv (x.take j)) ∧ j ≤ x.length ∧ i = .int .i64 j ∧ c = .int .u32 cu) (fun _ i => x.length - (intOf i).toNat)
      case atStart => exact ⟨_, 0, ⟨rfl⟩, Nat.zero_le _, rfl, rfl⟩
      case round =>
        obtain ⟨cu, j, HE1, hj, rfl, rfl⟩ := hrel
        by_cases hlt1 : j < x.length
        · obtain ⟨ad1, rfl, hy⟩ := Kd.at_int HR1.out (j : Int) (by omega) (by omega)
          rw [Int.toNat_natCast] at hy
          obtain ⟨y, Hy⟩ : ∃ y, Aside0 (y = rd x (j : Int)) := ⟨_, ⟨rfl⟩⟩
          rw [← Hy.out] at hy
          obtain ⟨e1, He1⟩ : ∃ e, Aside0 (e = Go.bits .xor .u32 cu (y % 4294967296)) := ⟨_, ⟨rfl⟩⟩
          obtain ⟨e2, He2⟩ : ∃ e, Aside0 (e = Go.bits .xor .u32 (e1 / 16) (rd quarterVals (Go.bits .and .u32 e1 15))) := ⟨_, ⟨rfl⟩⟩
          have hb1 := and15 e1
          have hb2 := and15 e2
          have hq1 := HG.out (Go.bits .and .u32 e1 15).toNat (by omega)
          have hq2 := HG.out (Go.bits .and .u32 e2 15).toNat (by omega)
          rw [show (((Go.bits .and .u32 e1 15).toNat : Nat) : Int) = Go.bits .and .u32 e1 15 from by omega] at hq1
          rw [show (((Go.bits .and .u32 e2 15).toNat : Nat) : Int) = Go.bits .and .u32 e2 15 from by omega] at hq2
          have HN : Aside0 (e2 = crcNib e1 ∧ Go.bits .xor .u32 (e2 / 16) (rd quarterVals (Go.bits .and .u32 e2 15)) = crcByte cu y) := ⟨by rw [He2.out]; rfl, by rw [He2.out, He1.out]; rfl⟩
          have q1 : (0 ≤ Go.bits .and .u32 e1 15 ∧ Go.bits .and .u32 e1 15 < 16) = True := eq_true hb1
          have q2 : (0 ≤ Go.bits .and .u32 e2 15 ∧ Go.bits .and .u32 e2 15 < 16) = True := eq_true hb2
          clear hb1 hb2
          rw [He2.out] at q2 hq2
          rw [He1.out] at q2 hq2 q1 hq1
          go_wp2
          go_round
          case rel =>
            refine ⟨_, j + 1, ⟨?_⟩, by omega, by go_num, rfl⟩
            rw [take_snoc_L x j 0 hlt1, crcBytes_snoc, ← HE1.out, show x.getD j 0 = y from Hy.out.symm]
            rfl
          case measure => simp [intOf]; omega
        · go_wp2
          go_round
          case rel =>
            refine ⟨_, k + 1, ⟨?_⟩, by omega, by go_num, rfl⟩
            obtain rfl : j = x.length := by omega
            have e := HE1.out
            rw [List.take_of_length_le (Nat.le_refl _)] at e
            rw [take_snoc_L l0 k [] hlt, crcParts_snoc, ← HE.out, show l0.getD k [] = x from Hx.out.symm, e]
          case measure => simp [intOf]; omega
    · go_wp2
      go_ret
      refine ⟨?_, Drawn0.refl _⟩
      have e := HE.out
      rw [List.take_of_length_le (by omega)] at e
      rw [e]
      rfl
theorem globBelow {w w' : World} (h : QuarterLaid w) (hb : Below w.heap.size w w') : QuarterLaid w' := fun i hi => pw_cell_below hb (h i hi)
theorem globDrewN {w : World} (h : QuarterLaid w) (n : Nat) : QuarterLaid (w.drewN n) := h
theorem globDrew {w : World} (h : QuarterLaid w) : QuarterLaid w.drew := h
/-- A block of slices that are read. -/
theorem C_rows {W : World} {b : Nat} {vs : List Value} {t : TypeId} {fr : Nat × Nat} (hb : W.heap[b]? = some (.cells vs.toArray t fr)) (xs : List (List Int)) (hl : xs.length = vs.length) (hm : xs.length ≤ 9223372036854775807)
    (hK : ∀ (j : Nat) (x : List Int) (v : Value), xs[j]? = some x → vs[j]? = some v → ∃ A c, v = Value.slice A x.length c ∧ x.length ≤ c ∧ (Kd.int .u8).C W A x.length x) : Kd.C (Kd.slice 5 (Kd.int .u8)) W (some ⟨b, 0, none⟩) xs.length xs := by
  refine ⟨rfl, hm, fun _ => ⟨_, rfl, fun j x hx => ?_⟩⟩
  have hj : j < vs.length := by
    rw [← hl]
    exact (List.getElem?_eq_some_iff.1 hx).1
  obtain ⟨A, c, he, hc, hr⟩ := hK j x vs[j] hx (List.getElem?_eq_getElem hj)
  refine ⟨[vs[j]], rfl, ⟨A, c, by rw [he], hc, hr⟩, fun i u hu => ?_⟩
  have h0 : i = 0 := by
    have := (List.getElem?_eq_some_iff.1 hu).1
    simp at this
    omega
  subst h0
  have hu' : vs[j] = u := by simpa using hu
  subst hu'
  have := World.news_of_block hb j vs[j] (by simp)
  simpa [Kd.slice] using this
def frame_Sum.f (l0 : List Int) : Option Int := frame_sum.f [l0]
set_option maxRecDepth 100000 in
set_option maxHeartbeats 1000000 in
theorem frame_Sum.calls (A0 : Option Addr) (c0 : Nat) (l0 : List Int) (r : Int) (w : World) (hr0 : Kd.C (Kd.int .u8) w A0 l0.length l0) (hc0 : l0.length ≤ c0) (hG : QuarterLaid w) (h : frame_Sum.f l0 = some r) :
    Calls Tryd.prog 8 #[.slice A0 l0.length c0] w fun e w' => e = .returned (.int .u32 r) ∧ Below w.heap.size w w' := by
  have hb : Below w.heap.size w (w.alloc (.cells #[.slice A0 l0.length c0] 22)) := (Below.refl _ _).alloc (Nat.le_refl _) _
  have hcall := frame_sum.calls (some ⟨w.heap.size, 0, none⟩) 1 [l0] r (w.alloc (.cells #[.slice A0 l0.length c0] 22))
    (C_rows (vs := [.slice A0 l0.length c0]) (heap_alloc_new w _) [l0] rfl (by simp) (fun j x v hx hv => by
      have hj : j = 0 := by
        have := (List.getElem?_eq_some_iff.1 hx).1
        simp at this
        omega
      subst hj
      obtain rfl : l0 = x := by simpa using hx
      obtain rfl : Value.slice A0 l0.length c0 = v := by simpa using hv
      exact ⟨A0, c0, rfl, hc0, Kd.C_below hr0 hb⟩)) (by simp) (globBelow hG hb) h
  have HC := Aside0.mk hcall
  have HB := Aside0.mk hb
  clear hcall hb h hG hr0
  go_enter Tryd.func8, Tryd.ntmps8
  go_wp2_with (go_at_call 19; refine HC.out.mono ?_; rintro e w' ⟨rfl, ⟨n, rfl⟩⟩)
  go_ret
  exact ⟨rfl, pw_below_drewN HB.out n⟩
def slices_Clone.f (l0 : List Int) : Option (List Int) := if l0.length < 140737488355328 then some l0 else none
set_option maxRecDepth 100000 in
set_option maxHeartbeats 1000000 in
theorem slices_Clone.calls (A0 : Option Addr) (c0 : Nat) (l0 : List Int) (r : List Int) (w : World) (hr0 : Kd.C (Kd.int .u8) w A0 l0.length l0) (hc0 : l0.length ≤ c0) (h : slices_Clone.f l0 = some r) :
    Calls Tryd.prog 25 #[.slice A0 l0.length c0] w fun e w' => ∃ v0_ : Value, e = .returned (v0_) ∧ Kd.R (Kd.int .u8) 5 w' w.heap.size (fun _ => True) v0_ r ∧ Below w.heap.size w w' := by
  unfold slices_Clone.f at h
  by_cases hl : l0.length < 140737488355328
  · rw [if_pos hl] at h
    obtain rfl := Option.some.inj h
    clear h
    have HR0 := Aside0.mk hr0
    have HLL := Aside0.mk hl
    clear hr0 hl
    have hk := fun W a n c => Lib.run_eql_slice_nil (P := Tryd.prog) W 22 5 a n c 0 0 Tryd.underlying22
    cases A0 with
    | none =>
      have e0 : l0 = [] := by
        rcases Nat.eq_zero_or_pos l0.length with h0 | h0
        · exact List.eq_nil_of_length_eq_zero h0
        · obtain ⟨ad, h1, _⟩ := HR0.out.2.2 h0
          cases h1
      subst e0
      go_enter Tryd.func25, Tryd.ntmps25
      go_wp2
      go_ret
      exact ⟨_, rfl, Kd.R_nil _ _ _ _ _, Below.refl _ _⟩
    | some ad =>
      have HB := Aside0.mk (Below.refl w.heap.size w)
      go_enter Tryd.func25, Tryd.ntmps25
      go_wp2_with (first | ((with_reducible refine gate_dst (N := 5) rfl ?_); refine Kd.R_lit (Kd.int .u8) _ 5 ?hg (N := 5) ?hd (xs := ([] : List Int)) (inner := []) (ok := fun _ => True) (okp := fun _ => True) ?hr ?hp (fun _ hk => hk) trivial (Below.refl _ _) (Nat.le_refl _) (by simp) ?_; (case hd => rfl); (case hg => rfl); (case hr => first | (go_simp; done) | (go_simp; rfl)); (case hp => exact (Reps.none _ _)); intro v102 w3 ho4 hb hg_ hnew_; clear hg_ hnew_; have HO := Aside0.mk ho4; have HB2 := Aside0.mk hb; clear ho4 hb) | ((with_reducible refine gate_builtin (b := .append) (xs := #[.tmp 5, .tmp 6]) rfl ?_); at_builtin; refine Kd.R_append_rows (Kd.int .u8) (w0 := w) w.heap.size rfl (.tmp 5) (.tmp 6) 22 5 (.int .u8 0) 1 rfl Tryd.underlying22 infoU8 rfl (by decide) (by omega) v102 ([] : List Int) l0 _ _ _ (fun _ => True) (fun _ => False) rfl rfl ?aO ?aR (fun _ _ h => h) (fun _ h => h.elim) ?aF ?aB ?aS ?aL ?_; (case aR => exact (Kd.C_below HR0.out HB2.out)); (case aB => exact HB2.out); (case aF => exact (fun _ _ => trivial)); (case aO => exact HO.out); (case aS => exact HB2.out.size); (case aL => have := HLL.out; simp; omega); intro v105 w5 ho hb hg hat; have HO5 := Aside0.mk ho; have HB5 := Aside0.mk hb; clear ho hb hg hat))
      go_ret
      exact ⟨_, rfl, by simpa using HO5.out, HB5.out⟩
  · rw [if_neg hl] at h
    cases h
set_option maxRecDepth 100000 in
set_option maxHeartbeats 1000000 in
/-- slices.Grow of a nil slice. -/
theorem grow_nil (n : Nat) (w : World) (hn : n ≤ 140737488355328) :
    Calls Tryd.prog 26 #[.slice none 0 0, .int .i64 n] w fun e w' => ∃ v0_ : Value, e = .returned (v0_) ∧ Kd.R (Kd.int .u8) 5 w' w.heap.size (fun _ => True) v0_ [] ∧ Below w.heap.size w w' := by
  have hcap : ∀ (W : World) (W2 : World) (v : Value), Kd.R (Kd.int .u8) 5 W w.heap.size (fun _ => True) v (List.replicate n 0) → ∃ v2, (Instr.slice 22 v none (some (.int .i64 0)) none).run Tryd.prog W2 = .ok v2 W2 ∧ Kd.R (Kd.int .u8) 5 W w.heap.size (fun _ => True) v2 [] := by
    intro W W2 v hv
    obtain ⟨A, c, rfl, hl, hr⟩ := Kd.R_reads hv
    refine ⟨.slice A 0 c, ?_, by simpa using Kd.R_take hv (m := 0) (Nat.zero_le _)⟩
    have hel : Tryd.prog.elem 22 = 5 := by simp [Program.elem, Tryd.underlying22]
    have hu : Tryd.prog.underlying 22 = some (.slice (Tryd.prog.elem 22)) := by rw [hel]; exact Tryd.underlying22
    obtain ⟨i0, hi, hz0, hz1, hz2⟩ := info_parts infoU8
    rw [run_slice_h (P := Tryd.prog) W2 22 A (List.replicate n (0:Int)).length c hu .i64 0 (by omega) (by omega), hel]
    simp [sizeOf, typeInfo, hi, hz1, sliced, Result.andThen]
    intro _
    cases A <;> simp [Addr.add]
  by_cases h0 : 0 < n
  · have HB := Aside0.mk (Below.refl w.heap.size w)
    have Hcap := Aside0.mk hcap
    clear hcap
    go_enter Tryd.func26, Tryd.ntmps26
    go_wp2_with (first | ((with_reducible refine gate_builtin (b := .append) (xs := #[.tmp 20, .tmp 21]) rfl ?_); at_builtin; refine Kd.R_append_zeros (Kd.int .u8) (w0 := w) w.heap.size rfl (.tmp 20) (.tmp 21) 22 3 5 (.int .u8 0) 1 rfl Tryd.underlying22 Tryd.underlying3 infoU8 rfl (by decide) (by omega) (.slice none 0 0) ([] : List Int) (0 : Int) (n : Int) (fun _ => True) rfl rfl rfl (fun _ _ => trivial) (Kd.R_nil _ _ _ _ _) (by omega) (Below.refl _ _) (Nat.le_refl _) (by simp; omega) ?_; intro v105 w5 ho hb hg hat; rw [Int.toNat_natCast, List.nil_append] at ho; obtain ⟨v2, hr2, ho2⟩ := Hcap.out w5 w5 v105 ho; have HO5 := Aside0.mk ho2; have HB5 := Aside0.mk hb; clear ho hb hg hat ho2 Hcap))
    go_ret
    exact ⟨_, rfl, HO5.out, HB5.out⟩
  · obtain rfl : n = 0 := by omega
    go_enter Tryd.func26, Tryd.ntmps26
    go_wp2
    go_ret
    exact ⟨_, rfl, Kd.R_nil _ _ _ _ _, Below.refl _ _⟩
def totalLen (l : List (List Int)) : Nat := (l.map List.length).sum
theorem totalLen_take (l : List (List Int)) (k : Nat) (h : k < l.length) : totalLen (l.take (k + 1)) = totalLen (l.take k) + (l.getD k []).length := by
  rw [take_snoc_L l k [] h]; simp [totalLen]
theorem totalLen_take_le (l : List (List Int)) (k : Nat) : totalLen (l.take k) ≤ totalLen l := by
  have h : totalLen (l.take k ++ l.drop k) = totalLen (l.take k) + totalLen (l.drop k) := by simp only [totalLen, List.map_append, List.sum_append]
  rw [List.take_append_drop] at h
  omega
theorem flatten_len (l : List (List Int)) : l.flatten.length = totalLen l := by simp [totalLen, List.length_flatten]
def slices_Concat.f (l0 : List (List Int)) : Option (List Int) := if l0.flatten.length < 140737488355328 then some l0.flatten else none
set_option maxRecDepth 100000 in
set_option maxHeartbeats 1000000 in
theorem slices_Concat.calls (A0 : Option Addr) (c0 : Nat) (l0 : List (List Int)) (r : List Int) (w : World) (hr0 : Kd.C (Kd.slice 5 (Kd.int .u8)) w A0 l0.length l0) (hc0 : l0.length ≤ c0) (h : slices_Concat.f l0 = some r) :
    Calls Tryd.prog 22 #[.slice A0 l0.length c0] w fun e w' => ∃ v0_ : Value, e = .returned (v0_) ∧ Kd.R (Kd.int .u8) 5 w' w.heap.size (fun _ => True) v0_ r ∧ Below w.heap.size w w' := by
  unfold slices_Concat.f at h
  by_cases hl : l0.flatten.length < 140737488355328
  · rw [if_pos hl] at h
    obtain rfl := Option.some.inj h
    clear h
    rw [flatten_len] at hl
    have HR0 := Aside0.mk hr0
    have HLL := Aside0.mk hl
    have HL0 := Kd.C_max hr0
    clear hr0 hl
    go_enter Tryd.func22, Tryd.ntmps22
    go_wp2_with fail
    go_loop [3, 11] (fun s i => ∃ (sv k : Nat), Aside0 (sv = totalLen (l0.take k)) ∧ k ≤ l0.length ∧ sv < 140737488355328 ∧ i = .int .i64 k ∧ s = .int .i64 sv) (fun _ i => l0.length - (intOf i).toNat)
    case atStart => exact ⟨0, 0, ⟨rfl⟩, Nat.zero_le _, by omega, rfl, rfl⟩
    case round =>
      obtain ⟨sv, k, HE, hk, hs, rfl, rfl⟩ := hrel
      by_cases hlt : k < l0.length
      · obtain ⟨ad, A1, c1, rfl, hx, hc1, hr1⟩ := xat HR0.out (k : Int) (by omega) (by omega)
        rw [Int.toNat_natCast] at hx
        have ht : sv + (xrd l0 (k : Int)).length < 140737488355328 := by
          have h1 := totalLen_take l0 k hlt
          have h2 := totalLen_take_le l0 (k + 1)
          have h3 := HLL.out
          have h4 := HE.out
          have h5 : (xrd l0 (k : Int)).length = (l0.getD k []).length := rfl
          omega
        obtain ⟨x, Hx⟩ : ∃ x, Aside0 (x = xrd l0 (k : Int)) := ⟨_, ⟨rfl⟩⟩
        rw [← Hx.out] at hx hc1 hr1 ht
        clear hr1
        go_wp2_with fail
        go_round
        case rel =>
          refine ⟨sv + x.length, k + 1, ⟨?_⟩, by omega, by omega, by go_num, by go_num⟩
          rw [totalLen_take l0 k hlt, ← HE.out, Hx.out]
          rfl
        case measure => simp [intOf]; omega
      · obtain rfl : k = l0.length := by omega
        have HT : Aside0 (sv = totalLen l0) := ⟨by have := HE.out; rwa [List.take_of_length_le (Nat.le_refl _)] at this⟩
        clear HE
        go_wp2_with (go_at_call 26; refine (grow_nil sv _ (by omega)).mono ?_; rintro e w1 ⟨v1, rfl, ho1, hb1⟩; have HO1 := Aside0.mk ho1; have HB1 := Aside0.mk hb1; clear ho1 hb1)
        go_loopw [6, 27] (fun v i wr => ∃ (k : Nat) (xs : List Int), Aside0 (xs = (l0.take k).flatten) ∧ k ≤ l0.length ∧ i = .int .i64 k ∧ Aside0 (Kd.R (Kd.int .u8) 5 wr w.heap.size (fun _ => True) v xs) ∧ Aside0 (Below w.heap.size w wr)) (fun _ i _ => l0.length - (intOf i).toNat)
        case atStart => exact ⟨0, [], ⟨rfl⟩, Nat.zero_le _, rfl, HO1, HB1⟩
        case round =>
          obtain ⟨k, xs, HE, hk, rfl, HO, HB⟩ := hrel
          by_cases hlt : k < l0.length
          · obtain ⟨ad, A2, c2, rfl, hx, hc2, hr2⟩ := xat (Kd.C_below HR0.out HB.out) (k : Int) (by omega) (by omega)
            rw [Int.toNat_natCast] at hx
            obtain ⟨x, Hx⟩ : ∃ x, Aside0 (x = xrd l0 (k : Int)) := ⟨_, ⟨rfl⟩⟩
            rw [← Hx.out] at hx hc2 hr2
            have HR2 := Aside0.mk hr2
            clear hr2
            have HS : Aside0 (xs.length + x.length ≤ 140737488355328) := by
              have h1 := totalLen_take l0 k hlt
              have h2 := totalLen_take_le l0 (k + 1)
              have h3 := HLL.out
              have h5 : x.length = (l0.getD k []).length := by rw [Hx.out]; rfl
              have h6 : xs.length = totalLen (l0.take k) := by rw [HE.out, flatten_len]
              exact ⟨by omega⟩
            go_wp2_with (first | ((with_reducible refine gate_builtin (b := .append) (xs := #[.tmp 31, .tmp 32]) rfl ?_); at_builtin; refine Kd.R_append_rows (Kd.int .u8) (w0 := w) w.heap.size rfl (.tmp 31) (.tmp 32) 22 5 (.int .u8 0) 1 rfl Tryd.underlying22 infoU8 rfl (by decide) (by omega) _ xs x _ _ _ (fun _ => True) (fun _ => False) rfl rfl HO.out HR2.out (fun _ _ h => h) (fun _ h => h.elim) (fun _ _ => trivial) HB.out HB.out.size (by have := HS.out; omega) ?_; intro v105 w5 ho hb hg hat; have HO5 := Aside0.mk ho; have HB5 := Aside0.mk hb; clear ho hb hg hat))
            go_roundw
            case rel =>
              refine ⟨k + 1, xs ++ x, ⟨?_⟩, by omega, by go_num, HO5, HB5⟩
              rw [take_snoc_L l0 k [] hlt, HE.out, List.flatten_append, Hx.out]
              simp [xrd]
            case measure => simp [intOf]; omega
          · have HT2 : Aside0 (xs = l0.flatten) := ⟨by have := HE.out; rwa [List.take_of_length_le (by omega)] at this⟩
            clear HE
            go_wp2_with fail
            go_ret
            exact ⟨_, rfl, by rw [← HT2.out]; exact HO.out, HB.out⟩
  · rw [if_neg hl] at h
    cases h
end Go.Proofs.YtjcaieecafggiaaDoor.Pr
