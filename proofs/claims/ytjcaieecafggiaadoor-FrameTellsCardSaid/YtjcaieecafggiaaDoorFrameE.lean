/- What the document's First of frames comes to: the contract of its call, where what is read are bytes. -/
import Derived.Test.YtjcaieecafggiaaDoorPureFrame
import Derived.Test.YtjcaieecafggiaaDoorPr3
import Derived.Test.YtjcaieecafggiaaDoorCuts
import Derived.Deep.RegionWith
namespace Go.Proofs.YtjcaieecafggiaaDoor.Pr
open Go.RowKit Go.Proofs.YtjcaieecafggiaaDoorW.PrintWords Go.Proofs.YtjcaieecafggiaaDoorW.PrintLast Go.Proofs.YtjcaieecafggiaaDoorW.PrintMore Go.Proofs.YtjcaieecafggiaaDoor.Pure
set_option linter.unusedVariables false
set_option linter.unusedSimpArgs false
def bytesB (l : List Int) : Bool := l.all fun x => decide (0 ≤ x) && decide (x ≤ 255)
theorem _root_.Go.Proofs.YtjcaieecafggiaaDoor.Pure.Bytes.getD {l : List Int} (h : Bytes l) {i : Nat} (hi : i < l.length) : 0 ≤ l.getD i 0 ∧ l.getD i 0 ≤ 255 := getD_byte h hi
theorem bytesB_iff {l : List Int} : bytesB l = true ↔ Bytes l := by simp [bytesB, Bytes]
def sumL (l : List Int) : Int := ((sumN (nat l) : Nat) : Int)
def frameL (l : List Int) : List Int := fourL (l.length : Int) ++ (fourL (sumL (fourL (l.length : Int) ++ l)) ++ l)
def num4 (l : List Int) : Int := ((l.getD 0 0 * 256 + l.getD 1 0) * 256 + l.getD 2 0) * 256 + l.getD 3 0
def minstrelref06_First.f (l0 : List Int) : Option (List Int × Int × Int) :=
  if bytesB l0 = true then
    if (l0.length : Int) < 8 then some ([], 0, 3)
    else if num4 l0 > 1048576 then some ([], 0, 2)
    else if 8 + num4 l0 > (l0.length : Int) then some ([], 0, 3)
    else if frameL ((l0.take (8 + num4 l0).toNat).drop 8) = l0.take (8 + num4 l0).toNat then some ((l0.take (8 + num4 l0).toNat).drop 8, 8 + num4 l0, 0) else some ([], 0, 4)
  else none
theorem minstrelref06_First.cases {l0 : List Int} {r1 : List Int} {r2 r3 : Int} (h : minstrelref06_First.f l0 = some (r1, r2, r3)) : Bytes l0 ∧ (
    ((l0.length : Int) < 8 ∧ r1 = [] ∧ r2 = 0 ∧ r3 = 3) ∨ (8 ≤ (l0.length : Int) ∧ ((1048576 < num4 l0 ∧ r1 = [] ∧ r2 = 0 ∧ r3 = 2) ∨ (num4 l0 ≤ 1048576 ∧ ((l0.length : Int) < 8 + num4 l0 ∧ r1 = [] ∧ r2 = 0 ∧ r3 = 3 ∨ 8 + num4 l0 ≤ (l0.length : Int) ∧
        (frameL ((l0.take (8 + num4 l0).toNat).drop 8) = l0.take (8 + num4 l0).toNat ∧ r1 = (l0.take (8 + num4 l0).toNat).drop 8 ∧ r2 = 8 + num4 l0 ∧ r3 = 0 ∨ frameL ((l0.take (8 + num4 l0).toNat).drop 8) ≠ l0.take (8 + num4 l0).toNat ∧ r1 = [] ∧ r2 = 0 ∧ r3 = 4)))))) := by
  unfold minstrelref06_First.f at h
  by_cases hb : bytesB l0 = true
  · rw [if_pos hb] at h
    refine ⟨bytesB_iff.1 hb, ?_⟩
    by_cases c1 : (l0.length : Int) < 8
    · rw [if_pos c1] at h
      obtain ⟨rfl, rfl, rfl⟩ : [] = r1 ∧ 0 = r2 ∧ 3 = r3 := by simpa using h
      exact .inl ⟨c1, rfl, rfl, rfl⟩
    · rw [if_neg c1] at h
      refine .inr ⟨by omega, ?_⟩
      by_cases c2 : num4 l0 > 1048576
      · rw [if_pos c2] at h
        obtain ⟨rfl, rfl, rfl⟩ : [] = r1 ∧ 0 = r2 ∧ 2 = r3 := by simpa using h
        exact .inl ⟨c2, rfl, rfl, rfl⟩
      · rw [if_neg c2] at h
        refine .inr ⟨by omega, ?_⟩
        by_cases c3 : 8 + num4 l0 > (l0.length : Int)
        · rw [if_pos c3] at h
          obtain ⟨rfl, rfl, rfl⟩ : [] = r1 ∧ 0 = r2 ∧ 3 = r3 := by simpa using h
          exact .inl ⟨c3, rfl, rfl, rfl⟩
        · rw [if_neg c3] at h
          refine .inr ⟨by omega, ?_⟩
          by_cases c4 : frameL ((l0.take (8 + num4 l0).toNat).drop 8) = l0.take (8 + num4 l0).toNat
          · rw [if_pos c4] at h
            obtain ⟨h5, h6, h7⟩ : (l0.take (8 + num4 l0).toNat).drop 8 = r1 ∧ 8 + num4 l0 = r2 ∧ 0 = r3 := by simpa using h
            exact .inl ⟨c4, h5.symm, h6.symm, h7.symm⟩
          · rw [if_neg c4] at h
            obtain ⟨h5, h6, h7⟩ : [] = r1 ∧ 0 = r2 ∧ 4 = r3 := by simpa using h
            exact .inr ⟨c4, h5.symm, h6.symm, h7.symm⟩
  · rw [if_neg hb] at h
    cases h
theorem str_inj {a b : List Int} (ha : Bytes a) (hb : Bytes b) (h : strOfNums a = strOfNums b) : a = b := by
  have h1 : (a.map fun n => UInt8.ofNat n.toNat) = b.map fun n => UInt8.ofNat n.toNat := by
    have := congrArg (fun s : ByteArray => s.data.toList) h
    simpa [strOfNums_data] using this
  have key : ∀ (a b : List Int), Bytes a → Bytes b → (a.map fun n => UInt8.ofNat n.toNat) = (b.map fun n => UInt8.ofNat n.toNat) → a = b := by
    intro a
    induction a with
    | nil => intro b _ _ h; cases b with | nil => rfl | cons y b => simp at h
    | cons x a ih =>
      intro b ha hb h
      cases b with
      | nil => simp at h
      | cons y b =>
        simp only [List.map_cons, List.cons.injEq] at h
        have hx := ha x List.mem_cons_self
        have hy := hb y List.mem_cons_self
        have e := congrArg UInt8.toNat h.1
        simp only [UInt8.toNat_ofNat'] at e
        rw [ih b (fun z hz => ha z (List.mem_cons_of_mem _ hz)) (fun z hz => hb z (List.mem_cons_of_mem _ hz)) h.2]
        congr 1
        omega
  exact key a b ha hb h1
theorem str_beq {a b : List Int} (h : strOfNums a = strOfNums b) : ((strOfNums a).toList == (strOfNums b).toList) = true := by rw [h]; exact beq_self_eq_true _
theorem toList_inj {a b : ByteArray} (h : a.toList = b.toList) : a = b := by
  have h1 : ∀ c : ByteArray, c.toList = c.data.toList := fun c => Go.ByteArray.toList_eq c
  rw [h1, h1] at h
  cases a; cases b
  congr 1
  exact Array.toList_inj.1 h
theorem str_bne {a b : List Int} (ha : Bytes a) (hb : Bytes b) (h : a ≠ b) : ((strOfNums a).toList == (strOfNums b).toList) = false :=
  beq_eq_false_iff_ne.2 fun e => h (str_inj ha hb (toList_inj e))
theorem bytes_frame {l : List Int} (h : Bytes l) : Bytes (frameL l) := by
  unfold frameL
  have h2 : ∀ a, Bytes (fourL a) := by
    intro a x hx
    simp only [fourL, List.mem_cons, List.mem_nil_iff, or_false] at hx
    rcases hx with rfl | rfl | rfl | rfl <;> omega
  intro x hx
  rcases List.mem_append.1 hx with hx | hx
  · exact h2 _ x hx
  · rcases List.mem_append.1 hx with hx | hx
    · exact h2 _ x hx
    · exact h x hx
theorem bytes_take {l : List Int} (h : Bytes l) (n : Nat) : Bytes (l.take n) := fun x hx => h x (List.mem_of_mem_take hx)
theorem bytes_drop {l : List Int} (h : Bytes l) (n : Nat) : Bytes (l.drop n) := fun x hx => h x (List.mem_of_mem_drop hx)
theorem bytes_app {l m : List Int} (h : Bytes l) (h' : Bytes m) : Bytes (l ++ m) := fun x hx => by
  rcases List.mem_append.1 hx with hx | hx
  · exact h x hx
  · exact h' x hx
theorem bytes_four (a : Int) : Bytes (fourL a) := by
  intro x hx
  simp only [fourL, List.mem_cons, List.mem_nil_iff, or_false] at hx
  rcases hx with rfl | rfl | rfl | rfl <;> omega
theorem and255 (a : Int) (h0 : 0 ≤ a) (h1 : a < 4294967296) : Go.bits .and .u32 a 255 = a % 256 := by
  obtain ⟨n, rfl⟩ := Int.eq_ofNat_of_zero_le h0
  have := u32_and_nat n 255 (by omega) (by decide)
  rw [nat_mask8] at this
  rw [show ((255 : Nat) : Int) = 255 from rfl] at this
  rw [this]
  omega
theorem ref_Four_eq (a : Int) (h0 : 0 ≤ a) (h1 : a < 4294967296) : minstrelref06_Four.f a = some (fourL a) := by
  unfold minstrelref06_Four.f fourL
  rw [and255 _ (by omega) (by omega), and255 _ (by omega) (by omega), and255 _ (by omega) (by omega)]
  congr 1
  simp only [List.cons.injEq, and_true]
  refine ⟨trivial, ?_, ?_, ?_⟩ <;> omega
theorem ref_Frame_eq (l : List Int) (h : Bytes l) (hl : l.length < 1073741824) : minstrelref06_Frame.f (10 * (l.length + 4) + 1) l = some (frameL l) := by
  have h1 : (l.length : Int) % 4294967296 = l.length := by omega
  have h4 : ∀ a, (fourL a).length = 4 := fun a => rfl
  have hs := ref_Sum_eq (fourL (l.length : Int) ++ l) (bytes_app (bytes_four _) h) (by simp only [List.length_append, h4]; unfold maxLen; omega)
  rw [show (fourL (l.length : Int) ++ l).length = l.length + 4 by simp only [List.length_append, h4]; omega] at hs
  have hlt := sumN_lt (nat_lt (bytes_app (bytes_four (l.length : Int)) h))
  unfold minstrelref06_Frame.f
  rw [h1, ref_Four_eq _ (by omega) (by omega)]
  simp only [Option.bind_some, List.nil_append, List.length_nil, h4]
  rw [if_pos (by omega)]
  (try simp only [Option.bind_some, h4])
  rw [if_pos (by omega), hs]
  (try simp only [Option.bind_some])
  rw [ref_Four_eq _ (by omega) (by omega)]
  (try simp only [Option.bind_some, h4])
  rw [if_pos (by omega), if_pos (by omega)]
  (try simp only [Option.bind_some, List.length_append, h4])
  rw [if_pos (by omega)]
  simp [frameL, sumL]
set_option maxRecDepth 100000 in
set_option maxHeartbeats 2000000 in
theorem minstrelref06_First.calls (A0 : Option Addr) (c0 : Nat) (l0 : List Int) (r1 : List Int) (r2 : Int) (r3 : Int) (w : World) (hr0 : Kd.C (Kd.int .u8) w A0 l0.length l0) (hc0 : l0.length ≤ c0) (h : minstrelref06_First.f l0 = some (r1, r2, r3)) :
    Calls Tryd.prog 13 #[.slice A0 l0.length c0] w fun e w' => ∃ v0_ : Value, e = .returned (.tuple #[v0_, .int .i64 r2, .int .i64 r3]) ∧ Kd.R (Kd.int .u8) 5 w' w.heap.size (fun _ => True) v0_ r1 ∧ Below w.heap.size w w' := by
  have HR0 := Aside0.mk hr0
  have hmx := Kd.C_max hr0
  obtain ⟨hB, H⟩ := minstrelref06_First.cases h
  clear h hr0
  rcases H with ⟨c1, rfl, rfl, rfl⟩ | ⟨c1, H⟩
  · go_enter Tryd.func13, Tryd.ntmps13
    go_wp2_with fail
    go_ret3
    exact ⟨_, rfl, Kd.R_nil _ _ _ _ _, Below.refl _ _⟩
  · have c1b : decide (l0.length < 8) = false := by simp; omega
    obtain ⟨ad, rfl, x0⟩ := Kd.at_int HR0.out 0 (by omega) (by omega)
    obtain ⟨ad_, ea_, x1⟩ := Kd.at_int HR0.out 1 (by omega) (by omega)
    cases ea_
    obtain ⟨ad_, ea_, x2⟩ := Kd.at_int HR0.out 2 (by omega) (by omega)
    cases ea_
    obtain ⟨ad_, ea_, x3⟩ := Kd.at_int HR0.out 3 (by omega) (by omega)
    cases ea_
    have y0 := hB.getD (i := 0) (by omega)
    have y1 := hB.getD (i := 1) (by omega)
    have y2 := hB.getD (i := 2) (by omega)
    have y3 := hB.getD (i := 3) (by omega)
    have HBB := Aside0.mk hB
    clear hB
    have hnum : num4 l0 = ((l0.getD 0 0 * 256 + l0.getD 1 0) * 256 + l0.getD 2 0) * 256 + l0.getD 3 0 := rfl
    obtain ⟨b0, Hb0⟩ : ∃ b, Aside0 (b = l0.getD 0 0) := ⟨_, ⟨rfl⟩⟩
    obtain ⟨b1, Hb1⟩ : ∃ b, Aside0 (b = l0.getD 1 0) := ⟨_, ⟨rfl⟩⟩
    obtain ⟨b2, Hb2⟩ : ∃ b, Aside0 (b = l0.getD 2 0) := ⟨_, ⟨rfl⟩⟩
    obtain ⟨b3, Hb3⟩ : ∃ b, Aside0 (b = l0.getD 3 0) := ⟨_, ⟨rfl⟩⟩
    rw [← Hb0.out, ← Hb1.out, ← Hb2.out, ← Hb3.out] at hnum
    obtain ⟨n, Hn⟩ : ∃ n, Aside0 (n = num4 l0) := ⟨_, ⟨rfl⟩⟩
    rw [← Hn.out] at hnum H
    have HH := Aside0.mk H
    clear H
    rw [show rd l0 0 = b0 from Hb0.out.symm, show (0 : Int).toNat = 0 from rfl, Addr.add_zero'] at x0
    rw [show rd l0 1 = b1 from Hb1.out.symm, show (1 : Int).toNat = 1 from rfl] at x1
    rw [show rd l0 2 = b2 from Hb2.out.symm, show (2 : Int).toNat = 2 from rfl] at x2
    rw [show rd l0 3 = b3 from Hb3.out.symm, show (3 : Int).toNat = 3 from rfl] at x3
    (try simp only [Nat.reduceMul, Nat.reduceEqDiff, Go.Addr.add, ↓reduceIte] at x1 x2 x3)
    rw [← Hb0.out] at y0
    rw [← Hb1.out] at y1
    rw [← Hb2.out] at y2
    rw [← Hb3.out] at y3
    have q0 : (0 < l0.length) = True := eq_true (by omega)
    have q1 : (1 < l0.length) = True := eq_true (by omega)
    have q2 : (2 < l0.length) = True := eq_true (by omega)
    have q3 : (3 < l0.length) = True := eq_true (by omega)
    have hn0 : 0 ≤ n := by omega
    have hn1 : n ≤ 4294967295 := by omega
    have HN := Aside0.mk hnum
    clear hnum
    go_enter Tryd.func13, Tryd.ntmps13
    go_wp2
    go_quiet (fail)
    rw [← HN.out]
    clear x0 x1 x2 x3 y0 y1 y2 y3 q0 q1 q2 q3
    rcases HH.out with ⟨c2, rfl, rfl, rfl⟩ | ⟨c2, ⟨c3, rfl, rfl, rfl⟩ | ⟨c3, H⟩⟩
    · go_wp2_with fail
      go_ret3
      exact ⟨_, rfl, Kd.R_nil _ _ _ _ _, pw_below_drewN (Below.refl _ _) _⟩
    · go_wp2_with fail
      go_ret3
      exact ⟨_, rfl, Kd.R_nil _ _ _ _ _, pw_below_drewN (Below.refl _ _) _⟩
    · go_wp2_with fail
      obtain ⟨i0, hi, hz0, hz1, hz2⟩ := info_parts infoU8
      obtain ⟨A2, c2_, y, Hy, hrun2, hcy2, hC2⟩ := cut_lh (P := Tryd.prog) (d := Kd.int .u8) 22 5 Tryd.underlying22 hi hz1 (some ad) c0 l0 hc0 8 (8 + n) (by omega) (by omega) (by omega)
      obtain ⟨z, Hz, hrun1, hcz, hC1⟩ := cut_h (P := Tryd.prog) (d := Kd.int .u8) 22 5 Tryd.underlying22 hi hz1 (some ad) c0 l0 hc0 (8 + n) (by omega) (by omega)
      have e1 : l0.take (8 + n).toNat = z := Hz.out.symm
      have e2 : z.drop 8 = y := by rw [← e1]; exact Hy.out.symm
      rw [e1, e2] at H
      have HY := Aside0.mk H
      have hyl : y.length ≤ 1048576 := by rw [Hy.out]; simp; omega
      have hyB : Bytes y := by rw [Hy.out]; exact bytes_drop (bytes_take HBB.out _) _
      have HC := Aside0.mk (And.intro hC1 hC2)
      have HF := Aside0.mk (ref_Frame_eq y hyB (by omega))
      obtain ⟨f, Hf⟩ : ∃ f, Aside0 (f = frameL y) := ⟨_, ⟨rfl⟩⟩
      obtain ⟨S1, HS1⟩ : ∃ s, Aside0 (s = strOfNums f) := ⟨_, ⟨rfl⟩⟩
      obtain ⟨S2, HS2⟩ : ∃ s, Aside0 (s = strOfNums z) := ⟨_, ⟨rfl⟩⟩
      rw [← Hf.out] at HF HY
      clear hC1 hC2 e1 e2 H HH hyB hz0 hz1 hz2 hi
      have hcz2 : ∀ k, (convert 22 9 (.slice (some ad) z.length c0)).run Tryd.prog (w.drewN k) = .ok (.string S2) (w.drewN k) := fun k => by
        rw [HS2.out]; exact Kd.C_string Tryd.underlying22 Tryd.underlying5 Tryd.underlying9 (HC.out.1 (w.drewN k) HR0.out)
      have hw8 : IntKind.i64.wrap (8 + n) = 8 + n := by rw [IntKind.wrap_i64]; omega
      have HCALL := Aside0.mk (fun k : Nat => minstrelref06_Frame.calls _ A2 c2_ y f (w.drewN k) (HC.out.2 (w.drewN k) HR0.out) hcy2 HF.out)
      go_cut [49] (fun s wx => ∃ bb : Bool, Aside0 (bb = !(S1.toList == S2.toList)) ∧ s = .bool bb ∧ Aside0 (Below w.heap.size w wx))
      case first =>
        go_region_with (first | (go_at_call 17; refine (HCALL.out _).mono ?_; rintro e w5 ⟨v5, rfl, ho5, hb5⟩; obtain ⟨A5, c5, rfl, hc5, hr5⟩ := Kd.R_reads ho5; have hcf := Kd.C_string (c := c5) Tryd.underlying22 Tryd.underlying5 Tryd.underlying9 hr5; have hczz := Kd.C_string (c := c0) Tryd.underlying22 Tryd.underlying5 Tryd.underlying9 (HC.out.1 w5 (Kd.C_below HR0.out (show Below w.heap.size w w5 from ⟨hb5.os, hb5.tape, hb5.output, hb5.size, hb5.block⟩))); rw [← HS1.out] at hcf; rw [← HS2.out] at hczz; have HB5 : Aside0 (Below w.heap.size w w5) := ⟨⟨hb5.os, hb5.tape, hb5.output, hb5.size, hb5.block⟩⟩; clear ho5 hr5 hb5))
        all_goals (go_wp2_with fail; go_meet; first | exact ⟨_, ⟨rfl⟩, rfl, HB5⟩ | exact ⟨_, ⟨rfl⟩, rfl, ⟨pw_below_drewN HB5.out _⟩⟩)
      case rest =>
        obtain ⟨bb, Hbb, rfl, HBx⟩ := hcut
        clear hcz2 HF
        rcases HY.out with ⟨e0, e1, rfl, rfl⟩ | ⟨e0, rfl, rfl, rfl⟩
        · have t1 : (!(S1.toList == S2.toList)) = false := by rw [HS1.out, HS2.out, e0, beq_self_eq_true]; rfl
          obtain rfl : bb = false := Hbb.out.trans t1
          have HE1 := Aside0.mk e1
          have HCC := Aside0.mk (HC.out.2 wc (Kd.C_below HR0.out HBx.out))
          clear HY e0 e1 hrun1 Hy t1 Hbb
          go_wp2_with (first | ((with_reducible refine gate_dst (N := 50) rfl ?_); refine Kd.R_lit (Kd.int .u8) _ 5 ?hg (N := 50) ?hd (xs := ([] : List Int)) (inner := []) (ok := fun _ => True) (okp := fun _ => True) ?hr ?hp (fun _ hk => hk) trivial (Below.refl _ _) (Nat.le_refl _) (by simp) ?_; (case hd => rfl); (case hg => rfl); (case hr => first | (go_simp; done) | (go_simp; rfl)); (case hp => exact (Reps.none _ _)); intro v6 w6 ho6 hb6 hg_ hnew_; clear hg_ hnew_; have HO6 := Aside0.mk (Kd.R_lower ho6 HBx.out.size); have HB6 := Aside0.mk (below_then HBx.out HBx.out.size hb6); have HCD := Aside0.mk (Kd.C_below HCC.out hb6); clear ho6 hb6) | ((with_reducible refine gate_builtin (b := .append) (xs := #[.tmp 50, .tmp 54]) rfl ?_); at_builtin; refine Kd.R_append_rows (Kd.int .u8) (w0 := w) w.heap.size rfl (.tmp 50) (.tmp 54) 22 5 (.int .u8 0) 1 rfl Tryd.underlying22 infoU8 rfl (by decide) (by omega) v6 ([] : List Int) y _ _ _ (fun _ => True) (fun _ => False) rfl rfl HO6.out HCD.out (fun _ _ h => h) (fun _ h => h.elim) (fun _ _ => trivial) HB6.out HB6.out.size (by simp; omega) ?_; intro v7 w7 ho7 hb7 hg7 hat7; have HO7 := Aside0.mk ho7; have HB7 := Aside0.mk hb7; clear ho7 hb7 hg7 hat7))
          go_ret3
          exact ⟨_, rfl, by rw [HE1.out]; simpa using HO7.out, HB7.out⟩
        · have t1 : (!(S1.toList == S2.toList)) = true := by
            rw [HS1.out, HS2.out]
            rw [str_bne (by rw [Hf.out]; exact bytes_frame (by rw [Hy.out]; exact bytes_drop (bytes_take HBB.out _) _)) (by rw [Hz.out]; exact bytes_take HBB.out _) e0]
            rfl
          obtain rfl : bb = true := Hbb.out.trans t1
          clear HY e0
          go_wp2_with fail
          go_ret3
          exact ⟨_, rfl, Kd.R_nil _ _ _ _ _, HBx.out⟩
end Go.Proofs.YtjcaieecafggiaaDoor.Pr
